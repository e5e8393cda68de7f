/- Walks of functions. -/
import Derived.Test.YtgelfnjicglmbaaGreatDoorQx0
import Derived.Test.YtgelfnjicglmbaaGreatDoorQx7
set_option linter.unusedSimpArgs false
set_option linter.unusedVariables false
open Go.RowKit Go.Proofs.YtgelfnjicglmbaaGreatDoorW.PrintWords Go.Proofs.YtgelfnjicglmbaaGreatDoorW.PrintLast Go.Proofs.YtgelfnjicglmbaaGreatDoorW.PrintMore
set_option maxHeartbeats 8000000
set_option maxRecDepth 100000
attribute [local go_sem] max2_int min2_int max_two min_two max_three min_three max_four min_four
section
namespace Go.Proofs.YtgelfnjicglmbaaGreatDoor.Q

/-! ### path_ParseParams: function 17 -/
mutual
def path_ParseParams.l0 : Nat → Int → List ByteArray → List ByteArray → Int → Int → Bool → Bool → Int → Option (Bool × Bool × Int × Int)
 | 0, _, _, _, _, _, _, _, _ => none
 | k + 1, x5, x6, x25, x26, x27, x230000, x230001, x230002 => if x27 < x26 then (if 0 ≤ x27 then (if x27 < (x25.length : Int) then ((path_parts.f (rdOf ByteArray.empty x25 x27)).bind fun bt234 => ((path_ParseParams_of.f bt234.1).bind fun bt238 => (if bt238.2 = true then (if bt234.2.2.1 = true then ((slices_Contains_string_string.f x6 bt234.1).bind fun t240 => (path_ParseParams.j1 k x5 x6 bt234.1 bt234.2.1 bt234.2.2.1 bt234.2.2.2 bt238.1 bt238.2 1 x25 x26 x27 (!t240) x230000 x230001 x230002)) else (path_ParseParams.j1 k x5 x6 bt234.1 bt234.2.1 bt234.2.2.1 bt234.2.2.2 bt238.1 bt238.2 1 x25 x26 x27 false x230000 x230001 x230002)) else (path_ParseParams.j1 k x5 x6 bt234.1 bt234.2.1 bt234.2.2.1 bt234.2.2.2 bt238.1 bt238.2 1 x25 x26 x27 false x230000 x230001 x230002)))) else (none)) else (none)) else (if x5 = 0 then (some (x230000, x230001, x230002, 0)) else (some (false, false, 0, x5)))
def path_ParseParams.j1 : Nat → Int → List ByteArray → ByteArray → ByteArray → Bool → Bool → Int → Bool → Int → List ByteArray → Int → Int → Bool → Bool → Bool → Int → Option (Bool × Bool × Int × Int)
 | 0, _, _, _, _, _, _, _, _, _, _, _, _, _, _, _, _ => none
 | k + 1, x5, x6, x9, x10, x11, x12, x13, x14, x15, x25, x26, x27, x53, x230000, x230001, x230002 => if x53 = true then ((path_ParseParams_run.f x13 x230000 x230001 x230002 x10).bind fun bt241 => (if x12 = true then (if bt241.2.2.2 = 5 then (some (false, false, 0, 5)) else (if x6.length < 8796093022208 then (path_ParseParams.l0 k (mx x5 bt241.2.2.2) (x6 ++ [x9]) x25 x26 (wrap64 (x27 + 1)) bt241.1 bt241.2.1 bt241.2.2.1) else (none))) else (some (false, false, 0, 5)))) else (if x14 = true then (if x11 = true then (path_ParseParams.j2 k x5 x6 x9 x10 x12 x13 x15 x25 x26 x27 (x9.toList == ([115, 105, 122, 101] : List UInt8)) x230000 x230001 x230002) else (path_ParseParams.j2 k x5 x6 x9 x10 x12 x13 x15 x25 x26 x27 false x230000 x230001 x230002)) else (path_ParseParams.j2 k x5 x6 x9 x10 x12 x13 x15 x25 x26 x27 false x230000 x230001 x230002))
def path_ParseParams.j2 : Nat → Int → List ByteArray → ByteArray → ByteArray → Bool → Int → Int → List ByteArray → Int → Int → Bool → Bool → Bool → Int → Option (Bool × Bool × Int × Int)
 | 0, _, _, _, _, _, _, _, _, _, _, _, _, _, _ => none
 | k + 1, x5, x6, x9, x10, x12, x13, x15, x25, x26, x27, x64, x230000, x230001, x230002 => if x64 = true then ((path_ParseParams_run.f x13 false false 0 x10).bind fun bt249 => (if x12 = true then (if (mx bt249.2.2.2 1) = 5 then (some (false, false, 0, 5)) else (if x6.length < 8796093022208 then (path_ParseParams.l0 k (mx x5 (mx bt249.2.2.2 1)) (x6 ++ [x9]) x25 x26 (wrap64 (x27 + 1)) x230000 x230001 x230002) else (none))) else (some (false, false, 0, 5)))) else (if x12 = true then (if x15 = 5 then (some (false, false, 0, 5)) else (if x6.length < 8796093022208 then (path_ParseParams.l0 k (mx x5 x15) (x6 ++ [x9]) x25 x26 (wrap64 (x27 + 1)) x230000 x230001 x230002) else (none))) else (some (false, false, 0, 5)))
end
def path_ParseParams.f (k : Nat) (a0 : ByteArray) : Option (Bool × Bool × Int × Int) := if a0.toList = ([] : List UInt8) then (some (false, false, 0, 0)) else (if 0 < (a0.size : Int) then (if (bt a0 0) = 32 then (if 1 ≤ (a0.size : Int) then ((text_Split.f k (a0.extract 1 a0.size) 32).bind fun t230 => (path_ParseParams.l0 k 0 ([] : List ByteArray) t230 (t230.length : Int) 0 false false 0)) else (none)) else (some (false, false, 0, 5))) else (none))
theorem path_ParseParams.mono_l : ∀ k, (∀ y0 y1 y2 y3 y4 y5 y6 y7, LeO (path_ParseParams.l0 k y0 y1 y2 y3 y4 y5 y6 y7) (path_ParseParams.l0 (k + 1) y0 y1 y2 y3 y4 y5 y6 y7)) ∧ (∀ y0 y1 y2 y3 y4 y5 y6 y7 y8 y9 y10 y11 y12 y13 y14 y15, LeO (path_ParseParams.j1 k y0 y1 y2 y3 y4 y5 y6 y7 y8 y9 y10 y11 y12 y13 y14 y15) (path_ParseParams.j1 (k + 1) y0 y1 y2 y3 y4 y5 y6 y7 y8 y9 y10 y11 y12 y13 y14 y15)) ∧ (∀ y0 y1 y2 y3 y4 y5 y6 y7 y8 y9 y10 y11 y12 y13, LeO (path_ParseParams.j2 k y0 y1 y2 y3 y4 y5 y6 y7 y8 y9 y10 y11 y12 y13) (path_ParseParams.j2 (k + 1) y0 y1 y2 y3 y4 y5 y6 y7 y8 y9 y10 y11 y12 y13))
 | 0 => ⟨fun _ _ _ _ _ _ _ _ r h => by simp [path_ParseParams.l0] at h, fun _ _ _ _ _ _ _ _ _ _ _ _ _ _ _ _ r h => by simp [path_ParseParams.j1] at h, fun _ _ _ _ _ _ _ _ _ _ _ _ _ _ r h => by simp [path_ParseParams.j2] at h⟩
 | k + 1 => by
  obtain ⟨ih0, ih1, ih2⟩ := path_ParseParams.mono_l k
  refine ⟨?_, ?_, ?_⟩
  ·intro y0 y1 y2 y3 y4 y5 y6 y7
   unfold path_ParseParams.l0
   repeat' first
   | (with_reducible first | exact ih0 _ _ _ _ _ _ _ _ | exact ih1 _ _ _ _ _ _ _ _ _ _ _ _ _ _ _ _ | exact ih2 _ _ _ _ _ _ _ _ _ _ _ _ _ _ | exact text_Split.mono _ _ _ | exact LeO.refl _ | exact LeO.none _ | refine LeO.ite ?_ ?_ | refine LeO.bind ?_ (fun _ => ?_))
  ·intro y0 y1 y2 y3 y4 y5 y6 y7 y8 y9 y10 y11 y12 y13 y14 y15
   unfold path_ParseParams.j1
   repeat' first
   | (with_reducible first | exact ih0 _ _ _ _ _ _ _ _ | exact ih1 _ _ _ _ _ _ _ _ _ _ _ _ _ _ _ _ | exact ih2 _ _ _ _ _ _ _ _ _ _ _ _ _ _ | exact text_Split.mono _ _ _ | exact LeO.refl _ | exact LeO.none _ | refine LeO.ite ?_ ?_ | refine LeO.bind ?_ (fun _ => ?_))
  ·intro y0 y1 y2 y3 y4 y5 y6 y7 y8 y9 y10 y11 y12 y13
   unfold path_ParseParams.j2
   repeat' first
   | (with_reducible first | exact ih0 _ _ _ _ _ _ _ _ | exact ih1 _ _ _ _ _ _ _ _ _ _ _ _ _ _ _ _ | exact ih2 _ _ _ _ _ _ _ _ _ _ _ _ _ _ | exact text_Split.mono _ _ _ | exact LeO.refl _ | exact LeO.none _ | refine LeO.ite ?_ ?_ | refine LeO.bind ?_ (fun _ => ?_))
theorem path_ParseParams.mono : ∀ a0 k, LeO (path_ParseParams.f k a0) (path_ParseParams.f (k + 1) a0) := by
 intro a0 k
 obtain ⟨ih0, ih1, ih2⟩ := path_ParseParams.mono_l k
 unfold path_ParseParams.f
 repeat' first
   | (with_reducible first | exact ih0 _ _ _ _ _ _ _ _ | exact ih1 _ _ _ _ _ _ _ _ _ _ _ _ _ _ _ _ | exact ih2 _ _ _ _ _ _ _ _ _ _ _ _ _ _ | exact text_Split.mono _ _ _ | exact LeO.refl _ | exact LeO.none _ | refine LeO.ite ?_ ?_ | refine LeO.bind ?_ (fun _ => ?_))
theorem path_ParseParams.calls (k : Nat) (a0 : ByteArray) (r1 : Bool) (r2 : Bool) (r3 : Int) (r4 : Int) (w : World) (hG : Glob w) (h : path_ParseParams.f k a0 = some (r1, r2, r3, r4)) :
  Calls Tryz.prog 17 #[.string a0] w fun e w' => e = .returned (.tuple #[.agg #[.bool r1, .bool r2, .int .i64 r3], .int .i64 r4]) ∧ Below w.heap.size w w' := by
 have hu46 := Tryz.underlying46
 have HB := Aside0.mk (Below.refl w.heap.size w)
 have HG := Aside0.mk hG
 clear hG
 have H : (if a0.toList = ([] : List UInt8) then (some (false, false, 0, 0)) else (if 0 < (a0.size : Int) then (if (bt a0 0) = 32 then (if 1 ≤ (a0.size : Int) then ((text_Split.f k (a0.extract 1 a0.size) 32).bind fun t230 => (path_ParseParams.l0 k 0 ([] : List ByteArray) t230 (t230.length : Int) 0 false false 0)) else (none)) else (some (false, false, 0, 5))) else (none))) = some (r1, r2, r3, r4) := h
 clear h
 by_cases c2 : a0.toList = ([] : List UInt8)
 ·rw [if_pos c2] at H
  have c2b0 : (a0.toList == ([] : List UInt8)) = true := beq_iff_eq.mpr c2
  have c2b1 : (a0.toList != ([] : List UInt8)) = false := bne_eq_false_iff_eq.mpr c2
  clear c2
  simp only [Option.some.injEq, Prod.mk.injEq] at H
  obtain ⟨rfl, rfl, rfl, rfl⟩ := H
  go_enter Tryz.func17, Tryz.ntmps17
  go_wp2_with (first | ((with_reducible refine gate_dst (N := 2) rfl ?_); refine box_event ?hg (N := 2) ?hd (cs := #[.bool false, .bool false, .int .i64 0]) (t := 46) ?hr ?_; (case hd => rfl); (case hg => rfl); (case hr => first | (go_simp; done) | (go_simp; rfl)); intro gb228 hg w3 hbox hb; have BK228 := Aside0.mk (hbox); have GW228 := Aside0.mk (gz hg : w.heap.size ≤ gb228); have GE228 := Aside0.mk (gz hg : w.heap.size ≤ gb228); replace HB := Aside0.mk (below_step bl hb); clear hb hbox hg) | ((with_reducible refine gate_dst (N := 4) rfl ?_); refine box_event ?hg (N := 4) ?hd (cs := #[.bool false, .bool false, .int .i64 0]) (t := 46) ?hr ?_; (case hd => rfl); (case hg => rfl); (case hr => first | (go_simp; done) | (go_simp; rfl)); intro gb229 hg w4 hbox hb; have BK229 := Aside0.mk (hbox); have GW229 := Aside0.mk (gz hg : w.heap.size ≤ gb229); have GE229 := Aside0.mk (gz hg : w.heap.size ≤ gb229); replace HB := Aside0.mk (below_step bl hb); have NB228_229 := Aside0.mk (nl hg BK228.out : gb228 ≠ gb229); have NB229_228 := Aside0.mk (ng hg BK228.out : gb229 ≠ gb228); replace BK228 := Aside0.mk (kb BK228.out hb); clear hb hbox hg; have hnb5 := NB229_228.out; have hnc5 := NB228_229.out; have hcz6_0 := cz BK229.out 0 (.bool false); have hcz6_1 := cz BK229.out 1 (.bool false); have hcz6_2 := cz BK229.out 2 (.int .i64 0); have hfz6_0 := blk_frozen BK229.out 0; have hfz6_1 := blk_frozen BK229.out 1; have hfz6_2 := blk_frozen BK229.out 2; have hcz7_0 := cz BK228.out 0 (.bool false); have hcz7_1 := cz BK228.out 1 (.bool false); have hcz7_2 := cz BK228.out 2 (.int .i64 0); have hfz7_0 := blk_frozen BK228.out 0; have hfz7_1 := blk_frozen BK228.out 1; have hfz7_2 := blk_frozen BK228.out 2))
  refine bodyPost_ret (results_ct rfl _ _ gb228 46 #[.bool false, .bool false, .int .i64 0] (0, 0) _ rfl (by (with_reducible repeat (first | refine blk_drewN ?_ _ | refine blk_drew ?_ | refine blk_alloc ?_ _)); refine blk_put (cs := #[.bool false, .bool false, .int .i64 0]) ?_ 2 _ rfl; (with_reducible repeat (first | refine blk_drewN ?_ _ | refine blk_drew ?_ | refine blk_alloc ?_ _)); refine blk_put (cs := #[.bool false, .bool false, .int .i64 0]) ?_ 1 _ rfl; (with_reducible repeat (first | refine blk_drewN ?_ _ | refine blk_drew ?_ | refine blk_alloc ?_ _)); refine blk_put (cs := #[.bool false, .bool false, .int .i64 0]) ?_ 0 _ rfl; (with_reducible repeat (first | refine blk_drewN ?_ _ | refine blk_drew ?_ | refine blk_alloc ?_ _)); exact BK228.out) Tryz.underlying46 rfl kf) rfl ?_
  exact ⟨rf, bl⟩
 ·rw [if_neg c2] at H
  have c2b0 : (a0.toList == ([] : List UInt8)) = false := beq_eq_false_iff_ne.mpr c2
  have c2b1 : (a0.toList != ([] : List UInt8)) = true := bne_iff_ne.mpr c2
  by_cases c8 : 0 < (a0.size : Int)
  rotate_left
  ·rw [if_neg c8] at H
   exact ab H
  rw [if_pos c8] at H
  have c8b0 : decide (0 < (a0.size : Int)) = true := decide_eq_true c8
  have c8b1 : decide (0 < a0.size) = true := decide_eq_true (by omega)
  clear c8
  by_cases c10 : (bt a0 0) = 32
  ·rw [if_pos c10] at H
   have c10b0 : ((bt a0 0) == 32) = true := beq_iff_eq.mpr c10
   have c10b1 : ((bt a0 0) != 32) = false := bne_eq_false_iff_eq.mpr c10
   clear c10
   by_cases c11 : 1 ≤ (a0.size : Int)
   rotate_left
   ·rw [if_neg c11] at H
    exact ab H
   rw [if_pos c11] at H
   have c11b0 := eq_true c11
   have c11b1 : decide (1 ≤ (a0.size : Int)) = true := decide_eq_true c11
   clear c11
   obtain ⟨t230, A120, H⟩ := Option.bind_eq_some_iff.mp H
   replace H : (path_ParseParams.l0 k 0 ([] : List ByteArray) t230 (t230.length : Int) 0 false false 0) = some (r1, r2, r3, r4) := H
   have A12 := Aside0.mk A120
   clear A120
   have H' := Aside0.mk H
   clear H
   go_enter Tryz.func17, Tryz.ntmps17
   go_wp2_with (first | ((with_reducible refine gate_dst (N := 2) rfl ?_); refine box_event ?hg (N := 2) ?hd (cs := #[.bool false, .bool false, .int .i64 0]) (t := 46) ?hr ?_; (case hd => rfl); (case hg => rfl); (case hr => first | (go_simp; done) | (go_simp; rfl)); intro gb228 hg w13 hbox hb; have BK228 := Aside0.mk (hbox); have GW228 := Aside0.mk (gz hg : w.heap.size ≤ gb228); have GE228 := Aside0.mk (gz hg : w.heap.size ≤ gb228); replace HB := Aside0.mk (below_step bl hb); clear hb hbox hg) | ((with_reducible refine gate_dst (N := 4) rfl ?_); refine box_event ?hg (N := 4) ?hd (cs := #[.bool false, .bool false, .int .i64 0]) (t := 46) ?hr ?_; (case hd => rfl); (case hg => rfl); (case hr => first | (go_simp; done) | (go_simp; rfl)); intro gb229 hg w14 hbox hb; have BK229 := Aside0.mk (hbox); have GW229 := Aside0.mk (gz hg : w.heap.size ≤ gb229); have GE229 := Aside0.mk (gz hg : w.heap.size ≤ gb229); replace HB := Aside0.mk (below_step bl hb); have NB228_229 := Aside0.mk (nl hg BK228.out : gb228 ≠ gb229); have NB229_228 := Aside0.mk (ng hg BK228.out : gb229 ≠ gb228); replace BK228 := Aside0.mk (kb BK228.out hb); clear hb hbox hg; have p9 : 0 ≤ (0 : Int) := (by omega); have q9 : 0 < a0.size := (by have : (0 : Int) < (a0.size : Int) := od; omega); have hx9 : ∀ h : 0 < a0.size, ((a0[0]'h).toNat : Int) = bt a0 0 := bt_at a0 0; clear p9; have qi9 : (0 < (a0.size : Int)) = True := eq_true (od); replace q9 := eq_true q9) | ((with_reducible refine gate_callee (f := 43) rfl ?_); refine goesL_ (some 25) rfl rfl Tryz.func43 kf rfl #[.string (a0.extract 1 a0.size), .int .u8 32] rfl ml ?_; (with_reducible refine (text_Split.calls k (a0.extract 1 a0.size) 32 t230 _ A12.out).mono ?_); rintro e w15 ⟨v231, rfl, ho0, hb⟩; refine ⟨_, rfl, ?_⟩; have HO232 := Aside0.mk (Kd.R_lower ho0 (below_size bl)); replace BK228 := Aside0.mk (kb BK228.out hb); replace BK229 := Aside0.mk (kb BK229.out hb); replace HB := Aside0.mk (below_step bl hb); (try clear hb); (try clear hb2); (try clear hk); (try clear hi); (try clear ho0); obtain ⟨Ao16, co16, eo16⟩ := Kd.R_slice HO232.out; subst eo16))
   go_loopg [5, 6, 27] k (fun kq v5 v6 v27 w' => ∃ (x5_1 : Int) (x6_1 : List ByteArray) (x27_1 : Int) (x229000_1 : Bool) (x229001_1 : Bool) (x229002_1 : Int) (x230000_1 : Bool) (x230001_1 : Bool) (x230002_1 : Int), v5 = .int .i64 x5_1 ∧ v27 = .int .i64 x27_1 ∧ Aside0 (path_ParseParams.l0 kq x5_1 x6_1 t230 (t230.length : Int) x27_1 x230000_1 x230001_1 x230002_1 = some (r1, r2, r3, r4)) ∧ Aside0 (kq ≤ k) ∧ Aside0 (Kd.R Kd.string 9 w' w.heap.size (fun k_ => some k_ ≠ ((.slice Ao16 t230.length co16) : Value).ownBlock) v6 x6_1) ∧ Aside0 (Kd.R Kd.string 9 w' w.heap.size (fun k_ => some k_ ≠ (v6 : Value).ownBlock) (.slice Ao16 t230.length co16) t230) ∧ Aside0 (w'.heap[gb228]? = some (.cells #[.bool x229000_1, .bool x229001_1, .int .i64 x229002_1] 46 (0, 0))) ∧ Aside0 (w'.heap[gb229]? = some (.cells #[.bool x230000_1, .bool x230001_1, .int .i64 x230002_1] 46 (0, 0))) ∧ Aside0 (Below w.heap.size w w'))
   case atStart => exact ⟨(0), (([] : List ByteArray)), (0), (false), (false), (0), (false), (false), (0), rs, rs, H', ⟨Nat.le_refl _⟩, ⟨by first | exact Kd.R_nil _ _ _ _ _ | exact Kd.N_nil _ _ _ _ _ | exact Kd.V_nil _ _ _ _ _ | exact Kd.Q_nil _ _ _ _ _ | exact Kd.S_nil _ _ _ _ _⟩, ⟨by (with_reducible repeat (first | apply Kd.R_alloc | apply Kd.R_drewN | apply Kd.R_drew)); exact Kd.R_mono HO232.out (fun _ hk => (by simp [Value.ownBlock]))⟩, ⟨bk BK228.out⟩, ⟨bk BK229.out⟩, ⟨bl⟩⟩
   case round =>
    clear H'
    try clear c1
    try clear c2
    try clear c2b0
    try clear c2b1
    try clear p2
    try clear c4
    try clear c5
    try clear c8
    try clear c8b0
    try clear c8b1
    try clear p9
    try clear q9
    try clear hx9
    try clear qi9
    try clear c10
    try clear c10b0
    try clear c10b1
    try clear c11
    try clear c11b0
    try clear c11b1
    try clear hcz6_0
    try clear hcz6_1
    try clear hcz6_2
    try clear hcz7_0
    try clear hcz7_1
    try clear hcz7_2
    try clear hfz6_0
    try clear hfz6_1
    try clear hfz6_2
    try clear hfz7_0
    try clear hfz7_1
    try clear hfz7_2
    try clear p9
    try clear q9
    obtain ⟨x5_1, x6_1, x27_1, x229000_1, x229001_1, x229002_1, x230000_1, x230001_1, x230002_1, rfl, rfl, HA, HK1, HO_6, HO_25, BK228, BK229, HB⟩ := hrel
    cases gk with
    | zero => exact absurd HA.out (by simp [path_ParseParams.l0])
    | succ k1 =>
     have H := HA.out
     clear HA
     simp only [path_ParseParams.l0] at H
     by_cases c17 : x27_1 < (t230.length : Int)
     ·rw [if_pos c17] at H
      have c17b0 : decide (x27_1 < (t230.length : Int)) = true := decide_eq_true c17
      clear c17
      by_cases c18 : 0 ≤ x27_1
      rotate_left
      ·rw [if_neg c18] at H
       exact ab H
      rw [if_pos c18] at H
      have c18b0 : decide (0 ≤ x27_1) = true := decide_eq_true c18
      clear c18
      by_cases c19 : x27_1 < (t230.length : Int)
      rotate_left
      ·rw [if_neg c19] at H
       exact ab H
      rw [if_pos c19] at H
      have c19b0 : decide (x27_1 < (t230.length : Int)) = true := decide_eq_true c19
      clear c19
      obtain ⟨⟨t234, t235, t236, t237⟩, A200, H⟩ := Option.bind_eq_some_iff.mp H
      replace H : ((path_ParseParams_of.f t234).bind fun bt238 => (if bt238.2 = true then (if t236 = true then ((slices_Contains_string_string.f x6_1 t234).bind fun t240 => (path_ParseParams.j1 k1 x5_1 x6_1 t234 t235 t236 t237 bt238.1 bt238.2 1 t230 (t230.length : Int) x27_1 (!t240) x230000_1 x230001_1 x230002_1)) else (path_ParseParams.j1 k1 x5_1 x6_1 t234 t235 t236 t237 bt238.1 bt238.2 1 t230 (t230.length : Int) x27_1 false x230000_1 x230001_1 x230002_1)) else (path_ParseParams.j1 k1 x5_1 x6_1 t234 t235 t236 t237 bt238.1 bt238.2 1 t230 (t230.length : Int) x27_1 false x230000_1 x230001_1 x230002_1))) = some (r1, r2, r3, r4) := H
      have A20 := Aside0.mk A200
      clear A200
      obtain ⟨⟨t238, t239⟩, A210, H⟩ := Option.bind_eq_some_iff.mp H
      replace H : (if t239 = true then (if t236 = true then ((slices_Contains_string_string.f x6_1 t234).bind fun t240 => (path_ParseParams.j1 k1 x5_1 x6_1 t234 t235 t236 t237 t238 t239 1 t230 (t230.length : Int) x27_1 (!t240) x230000_1 x230001_1 x230002_1)) else (path_ParseParams.j1 k1 x5_1 x6_1 t234 t235 t236 t237 t238 t239 1 t230 (t230.length : Int) x27_1 false x230000_1 x230001_1 x230002_1)) else (path_ParseParams.j1 k1 x5_1 x6_1 t234 t235 t236 t237 t238 t239 1 t230 (t230.length : Int) x27_1 false x230000_1 x230001_1 x230002_1)) = some (r1, r2, r3, r4) := H
      have A21 := Aside0.mk A210
      clear A210
      have HC22 := Aside0.mk H
      clear H
      have p233 : 0 ≤ (x27_1 : Int) := od
      have q233 : x27_1 < (t230.length : Int) := od
      obtain ⟨ad233, e233, hx233_0⟩ := Kd.at_string (Kd.R_reads' HO_25.out).2.2 x27_1 p233 q233
      cases e233
      replace p233 := eq_true p233
      replace q233 := eq_true q233
      go_upto_region 14 with (first | ((with_reducible refine gate_callee (f := 44) rfl ?_); refine goesL_ (some 33) rfl rfl Tryz.func44 kf rfl #[.string (rdOf ByteArray.empty t230 x27_1)] rfl ml ?_; (with_reducible refine (path_parts.calls (rdOf ByteArray.empty t230 x27_1) t234 t235 t236 t237 _ ?side1 A20.out).mono ?_); (case side1 => exact Glob.below HG.out bl); rintro e w23 ⟨rfl, hb⟩; refine ⟨_, rfl, ?_⟩; replace HO_6 := Aside0.mk (Kd.R_below (kr HO_6.out) hb); replace HO_25 := Aside0.mk (Kd.R_below (kr HO_25.out) hb); replace BK228 := Aside0.mk (kb BK228.out hb); replace BK229 := Aside0.mk (kb BK229.out hb); replace HB := Aside0.mk (below_step bl hb); (try clear hb); (try clear hb2); (try clear hk); (try clear hi); obtain ⟨bS_, hS0_, hS1_⟩ := says_now HG.out HB.out A21.out (parts_size A20.out)))
      (try simp only [Act.put, sA, sB, sC])
      go_cut [53] (fun v53 wc => ∃ (kq : Nat) (x53_21 : Bool), v53 = .bool x53_21 ∧ Aside0 (path_ParseParams.j1 kq x5_1 x6_1 t234 t235 t236 t237 t238 t239 1 t230 (t230.length : Int) x27_1 x53_21 x230000_1 x230001_1 x230002_1 = some (r1, r2, r3, r4)) ∧ Aside0 (kq ≤ k1) ∧ Aside0 (Kd.R Kd.string 9 wc w.heap.size (fun k_ => some k_ ≠ ((.slice (some ad233) t230.length co16) : Value).ownBlock) u6 x6_1) ∧ Aside0 (Kd.R Kd.string 9 wc w.heap.size (fun k_ => some k_ ≠ (u6 : Value).ownBlock) (.slice (some ad233) t230.length co16) t230) ∧ Aside0 (wc.heap[gb228]? = some (.cells #[.bool x229000_1, .bool x229001_1, .int .i64 x229002_1] 46 (0, 0))) ∧ Aside0 (wc.heap[gb229]? = some (.cells #[.bool x230000_1, .bool x230001_1, .int .i64 x230002_1] 46 (0, 0))) ∧ Aside0 (Below w.heap.size w wc))
      case first =>
       have H := HC22.out
       clear HC22
       by_cases c24 : t239 = true
       ·subst c24
        replace H : (if t236 = true then ((slices_Contains_string_string.f x6_1 t234).bind fun t240 => (path_ParseParams.j1 k1 x5_1 x6_1 t234 t235 t236 t237 t238 true 1 t230 (t230.length : Int) x27_1 (!t240) x230000_1 x230001_1 x230002_1)) else (path_ParseParams.j1 k1 x5_1 x6_1 t234 t235 t236 t237 t238 true 1 t230 (t230.length : Int) x27_1 false x230000_1 x230001_1 x230002_1)) = some (r1, r2, r3, r4) := by rw [if_pos rfl] at H; exact H
        by_cases c25 : t236 = true
        ·subst c25
         replace H : ((slices_Contains_string_string.f x6_1 t234).bind fun t240 => (path_ParseParams.j1 k1 x5_1 x6_1 t234 t235 true t237 t238 true 1 t230 (t230.length : Int) x27_1 (!t240) x230000_1 x230001_1 x230002_1)) = some (r1, r2, r3, r4) := by rw [if_pos rfl] at H; exact H
         obtain ⟨t240, A260, H⟩ := Option.bind_eq_some_iff.mp H
         replace H : (path_ParseParams.j1 k1 x5_1 x6_1 t234 t235 true t237 t238 true 1 t230 (t230.length : Int) x27_1 (!t240) x230000_1 x230001_1 x230002_1) = some (r1, r2, r3, r4) := H
         have A26 := Aside0.mk A260
         clear A260
         have H' := Aside0.mk H
         clear H
         obtain ⟨Ao27, co27, eo27⟩ := Kd.R_slice HO_6.out
         subst eo27
         go_wp2_with (first | (go_at_call 45; (with_reducible refine (slices_Contains_string_string.calls _ _ x6_1 t234 t240 _ ?side1 ?side2 A26.out).mono ?_); (case side1 => repeat (first | exact (Kd.R_reads' HO_6.out).2.2 | (with_reducible refine Kd.C_alloc ?_ _) | (with_reducible refine Kd.C_drewN ?_ _) | (with_reducible refine Kd.C_drew ?_))); (case side2 => exact (Kd.R_reads' HO_6.out).2.1); rintro e w' ⟨rfl, ⟨nd, rfl⟩⟩))
         go_meet
         case rel => exact ⟨_, (!t240), rs, H', ⟨by have := HK1.out; first | omega | exact Nat.le_refl _⟩, ⟨kr HO_6.out⟩, ⟨kr HO_25.out⟩, ⟨bk BK228.out⟩, ⟨bk BK229.out⟩, ⟨bl⟩⟩
        ·replace c25 := Bool.eq_false_iff.mpr c25
         subst c25
         replace H : (path_ParseParams.j1 k1 x5_1 x6_1 t234 t235 false t237 t238 true 1 t230 (t230.length : Int) x27_1 false x230000_1 x230001_1 x230002_1) = some (r1, r2, r3, r4) := by rw [if_neg (show ¬ (false = true) by decide)] at H; exact H
         have H' := Aside0.mk H
         clear H
         go_wp2
         go_meet
         case rel => exact ⟨_, (false), rs, H', ⟨by have := HK1.out; first | omega | exact Nat.le_refl _⟩, ⟨kr HO_6.out⟩, ⟨kr HO_25.out⟩, ⟨bk BK228.out⟩, ⟨bk BK229.out⟩, ⟨bl⟩⟩
       ·replace c24 := Bool.eq_false_iff.mpr c24
        subst c24
        replace H : (path_ParseParams.j1 k1 x5_1 x6_1 t234 t235 t236 t237 t238 false 1 t230 (t230.length : Int) x27_1 false x230000_1 x230001_1 x230002_1) = some (r1, r2, r3, r4) := by rw [if_neg (show ¬ (false = true) by decide)] at H; exact H
        have H' := Aside0.mk H
        clear H
        go_wp2
        go_meet
        case rel => exact ⟨_, (false), rs, H', ⟨by have := HK1.out; first | omega | exact Nat.le_refl _⟩, ⟨kr HO_6.out⟩, ⟨kr HO_25.out⟩, ⟨bk BK228.out⟩, ⟨bk BK229.out⟩, ⟨bl⟩⟩
      case rest =>
       clear HC22
       try clear c1
       try clear c2
       try clear c2b0
       try clear c2b1
       try clear p2
       try clear q2
       try clear hx2
       try clear c4
       try clear c5
       try clear c8
       try clear c8b0
       try clear c8b1
       try clear p9
       try clear q9
       try clear hx9
       try clear qi9
       try clear c10
       try clear c10b0
       try clear c10b1
       try clear c11
       try clear c11b0
       try clear c11b1
       try clear c17
       try clear c17b0
       try clear c18
       try clear c18b0
       try clear c19
       try clear c19b0
       try clear p23
       try clear q23
       try clear hx23
       try clear c24
       try clear c25
       try clear hcz6_0
       try clear hcz6_1
       try clear hcz6_2
       try clear hcz7_0
       try clear hcz7_1
       try clear hcz7_2
       try clear hfz6_0
       try clear hfz6_1
       try clear hfz6_2
       try clear hfz7_0
       try clear hfz7_1
       try clear hfz7_2
       try clear hx233_0
       try clear p2
       try clear p233
       try clear p9
       try clear q233
       try clear q9
       obtain ⟨kq, x53_21, rfl, HA, HJ21, HO_6, HO_25, BK228, BK229, HB⟩ := hcut
       cases kq with
       | zero => exact absurd HA.out (by simp [path_ParseParams.j1])
       | succ kj21 =>
        have H := HA.out
        clear HA
        simp only [path_ParseParams.j1] at H
        by_cases c28 : x53_21 = true
        ·subst c28
         replace H : ((path_ParseParams_run.f t238 x230000_1 x230001_1 x230002_1 t235).bind fun bt241 => (if t237 = true then (if bt241.2.2.2 = 5 then (some (false, false, 0, 5)) else (if x6_1.length < 8796093022208 then (path_ParseParams.l0 kj21 (mx x5_1 bt241.2.2.2) (x6_1 ++ [t234]) t230 (t230.length : Int) (wrap64 (x27_1 + 1)) bt241.1 bt241.2.1 bt241.2.2.1) else (none))) else (some (false, false, 0, 5)))) = some (r1, r2, r3, r4) := by rw [if_pos rfl] at H; exact H
         obtain ⟨⟨t241, t242, t243, t244⟩, A290, H⟩ := Option.bind_eq_some_iff.mp H
         replace H : (if t237 = true then (if t244 = 5 then (some (false, false, 0, 5)) else (if x6_1.length < 8796093022208 then (path_ParseParams.l0 kj21 (mx x5_1 t244) (x6_1 ++ [t234]) t230 (t230.length : Int) (wrap64 (x27_1 + 1)) t241 t242 t243) else (none))) else (some (false, false, 0, 5))) = some (r1, r2, r3, r4) := H
         have A29 := Aside0.mk A290
         clear A290
         by_cases c30 : t237 = true
         ·subst c30
          replace H : (if t244 = 5 then (some (false, false, 0, 5)) else (if x6_1.length < 8796093022208 then (path_ParseParams.l0 kj21 (mx x5_1 t244) (x6_1 ++ [t234]) t230 (t230.length : Int) (wrap64 (x27_1 + 1)) t241 t242 t243) else (none))) = some (r1, r2, r3, r4) := by rw [if_pos rfl] at H; exact H
          by_cases c31 : t244 = 5
          ·rw [if_pos c31] at H
           have c31b0 : (t244 == 5) = true := beq_iff_eq.mpr c31
           have c31b1 : (t244 != 5) = false := bne_eq_false_iff_eq.mpr c31
           clear c31
           simp only [Option.some.injEq, Prod.mk.injEq] at H
           obtain ⟨rfl, rfl, rfl, rfl⟩ := H
           have hnb32 := NB229_228.out
           have hnc32 := NB228_229.out
           have hcz33_0 := cz BK229.out 0 (.bool x230000_1)
           have hcz33_1 := cz BK229.out 1 (.bool x230001_1)
           have hcz33_2 := cz BK229.out 2 (.int .i64 x230002_1)
           have hfz33_0 := blk_frozen BK229.out 0
           have hfz33_1 := blk_frozen BK229.out 1
           have hfz33_2 := blk_frozen BK229.out 2
           obtain ⟨nS_, fS_, hfS_, hfn_, hnn_, hnb_, hcS_⟩ := path_ParseParams_run.one A29.out
           go_wp2_with (first | ((with_reducible refine gate_callv (c := .tmp 54) rfl ?_); refine goesV_ (some 56) rfl rfl (c := .tmp 54) (by first | exact hfS_ | rfl) hfn_ hnn_ hnb_ #[.pointer (some ⟨gb229, 0, none⟩), .string t235] rfl ml ?_; (refine (hcS_ gb229 _ (bk BK229.out)).mono ?_); rintro e w_ ⟨rfl, w34, hb, rfl⟩; refine ⟨_, rfl, ?_⟩; replace HO_6 := Aside0.mk (Kd.R_below (kr HO_6.out) hb); replace HO_25 := Aside0.mk (Kd.R_below (kr HO_25.out) hb); replace BK228 := Aside0.mk (kb BK228.out hb); replace BK229 := Aside0.mk (kb BK229.out hb); replace HB := Aside0.mk (below_step bl hb); (try clear hb); (try clear hb2); (try clear hk); (try clear hi); have hcz35_0 := cz BK229.out 0 (.bool x230000_1); have hcz35_1 := cz BK229.out 1 (.bool x230001_1); have hcz35_2 := cz BK229.out 2 (.int .i64 x230002_1); have hfz35_0 := blk_frozen BK229.out 0; have hfz35_1 := blk_frozen BK229.out 1; have hfz35_2 := blk_frozen BK229.out 2; have hcz36_0 := cz BK228.out 0 (.bool x229000_1); have hcz36_1 := cz BK228.out 1 (.bool x229001_1); have hcz36_2 := cz BK228.out 2 (.int .i64 x229002_1); have hfz36_0 := blk_frozen BK228.out 0; have hfz36_1 := blk_frozen BK228.out 1; have hfz36_2 := blk_frozen BK228.out 2))
           refine bodyPost_ret (results_ct rfl _ _ gb228 46 #[.bool false, .bool false, .int .i64 0] (0, 0) _ rfl (by (with_reducible repeat (first | refine blk_drewN ?_ _ | refine blk_drew ?_ | refine blk_alloc ?_ _)); refine blk_put (cs := #[.bool false, .bool false, .int .i64 x229002_1]) ?_ 2 _ rfl; (with_reducible repeat (first | refine blk_drewN ?_ _ | refine blk_drew ?_ | refine blk_alloc ?_ _)); refine blk_put (cs := #[.bool false, .bool x229001_1, .int .i64 x229002_1]) ?_ 1 _ rfl; (with_reducible repeat (first | refine blk_drewN ?_ _ | refine blk_drew ?_ | refine blk_alloc ?_ _)); refine blk_put (cs := #[.bool x229000_1, .bool x229001_1, .int .i64 x229002_1]) ?_ 0 _ rfl; (with_reducible repeat (first | refine blk_drewN ?_ _ | refine blk_drew ?_ | refine blk_alloc ?_ _)); refine blk_far ?_ NB228_229.out _; (with_reducible repeat (first | refine blk_drewN ?_ _ | refine blk_drew ?_ | refine blk_alloc ?_ _)); refine blk_far ?_ NB228_229.out _; (with_reducible repeat (first | refine blk_drewN ?_ _ | refine blk_drew ?_ | refine blk_alloc ?_ _)); refine blk_far ?_ NB228_229.out _; (with_reducible repeat (first | refine blk_drewN ?_ _ | refine blk_drew ?_ | refine blk_alloc ?_ _)); exact BK228.out) Tryz.underlying46 rfl kf) rfl ?_
           exact ⟨rf, bl⟩
          ·rw [if_neg c31] at H
           have c31b0 : (t244 == 5) = false := beq_eq_false_iff_ne.mpr c31
           have c31b1 : (t244 != 5) = true := bne_iff_ne.mpr c31
           obtain ⟨ji37, hji37⟩ : ∃ j_ : Int, (mx x5_1 t244) = j_ := ⟨_, rfl⟩
           replace H : (if x6_1.length < 8796093022208 then (path_ParseParams.l0 kj21 ji37 (x6_1 ++ [t234]) t230 (t230.length : Int) (wrap64 (x27_1 + 1)) t241 t242 t243) else (none)) = some (r1, r2, r3, r4) := by first | (rw [hji37] at H; exact H) | (simp only [hji37] at H ⊢; exact H)
           (try rw [hji37] at A29)
           have hji37_ : (if x5_1 < t244 then t244 else x5_1) = ji37 := hji37
           by_cases c38 : x6_1.length < 8796093022208
           rotate_left
           ·rw [if_neg c38] at H
            exact ab H
           rw [if_pos c38] at H
           have LMc38 := Aside0.mk c38
           clear c38
           obtain ⟨y245, hy245⟩ : ∃ y_ : List ByteArray, y_ = (x6_1 ++ [t234]) := ⟨_, rfl⟩
           replace H : (path_ParseParams.l0 kj21 ji37 y245 t230 (t230.length : Int) (wrap64 (x27_1 + 1)) t241 t242 t243) = some (r1, r2, r3, r4) := by first | (rw [hy245]; with_reducible exact H) | (have H2_ := (Option.bind_some _ _).symm.trans H; rw [hy245]; with_reducible exact H2_) | (have H2_ := (Option.bind_some _ _).symm.trans H; with_reducible exact H2_) | with_reducible exact H | (rw [hy245]; exact H) | exact H
           have Ny245 := Aside0.mk hy245
           clear hy245
           have H' := Aside0.mk H
           clear H
           have hnb39 := NB229_228.out
           have hnc39 := NB228_229.out
           have hcz40_0 := cz BK229.out 0 (.bool x230000_1)
           have hcz40_1 := cz BK229.out 1 (.bool x230001_1)
           have hcz40_2 := cz BK229.out 2 (.int .i64 x230002_1)
           have hfz40_0 := blk_frozen BK229.out 0
           have hfz40_1 := blk_frozen BK229.out 1
           have hfz40_2 := blk_frozen BK229.out 2
           obtain ⟨nS_, fS_, hfS_, hfn_, hnn_, hnb_, hcS_⟩ := path_ParseParams_run.one A29.out
           go_wp2_with (first | ((with_reducible refine gate_callv (c := .tmp 54) rfl ?_); refine goesV_ (some 56) rfl rfl (c := .tmp 54) (by first | exact hfS_ | rfl) hfn_ hnn_ hnb_ #[.pointer (some ⟨gb229, 0, none⟩), .string t235] rfl ml ?_; (refine (hcS_ gb229 _ (bk BK229.out)).mono ?_); rintro e w_ ⟨rfl, w41, hb, rfl⟩; refine ⟨_, rfl, ?_⟩; replace HO_6 := Aside0.mk (Kd.R_below (kr HO_6.out) hb); replace HO_25 := Aside0.mk (Kd.R_below (kr HO_25.out) hb); replace BK228 := Aside0.mk (kb BK228.out hb); replace BK229 := Aside0.mk (kb BK229.out hb); replace HB := Aside0.mk (below_step bl hb); (try clear hb); (try clear hb2); (try clear hk); (try clear hi); have hcz42_0 := cz BK229.out 0 (.bool x230000_1); have hcz42_1 := cz BK229.out 1 (.bool x230001_1); have hcz42_2 := cz BK229.out 2 (.int .i64 x230002_1); have hfz42_0 := blk_frozen BK229.out 0; have hfz42_1 := blk_frozen BK229.out 1; have hfz42_2 := blk_frozen BK229.out 2) | ((with_reducible refine gate_builtin (b := .append) (xs := #[.tmp 80, .tmp 82]) rfl ?_); at_builtin; refine Kd.R_append Kd.string (w0 := w) w.heap.size rfl (.tmp 80) (.tmp 82) 22 9 (.string ⟨#[]⟩) 16 rfl Tryz.underlying22 info9 rfl (by decide) (by omega) u6 x6_1 t234 [.string t234] (fun k_ => some k_ ≠ (.slice (some ad233) t230.length co16 : Value).ownBlock) (fun _ => False) rfl (by first | (go_simp; done) | (go_simp; rfl)) ?aP (fun _ hk => hk.elim) ?aF ?aO ?aB ?aS ?aL ?_; (case aP => exact rfl); (case aB => exact bl); (case aF => exact (fun k_ hk => Kd.fresh' (Kd.R_lt (by (with_reducible repeat (first | apply Kd.R_alloc | apply Kd.R_drewN | apply Kd.R_drew)); exact (Kd.R_mono (Kd.R_far (p := ⟨gb229, 2, none⟩) (Kd.R_far (p := ⟨gb229, 1, none⟩) (Kd.R_far (p := ⟨gb229, 0, none⟩) (Kd.R_types HO_25.out BK229.out (by decide)) (fun _ hk => hk.2) (.bool t241)) (fun _ hk => hk.2) (.bool t242)) (fun _ hk => hk.2) (.int .i64 t243)) (fun _ h_ => h_.1)))) k_ hk)); (case aO => exact (by (with_reducible repeat (first | apply Kd.R_alloc | apply Kd.R_drewN | apply Kd.R_drew)); exact Kd.R_mono (Kd.R_far (p := ⟨gb229, 2, none⟩) (Kd.R_far (p := ⟨gb229, 1, none⟩) (Kd.R_far (p := ⟨gb229, 0, none⟩) (Kd.R_types HO_6.out BK229.out (by decide)) (fun _ hk => hk.2) (.bool t241)) (fun _ hk => hk.2) (.bool t242)) (fun _ hk => hk.2) (.int .i64 t243)) (fun _ hk => hk.1))); (case aS => exact (below_size bl)); (case aL => have := LMc38.out; omega); intro v246 w43 ho hb hg hat; rw [← Ny245.out] at ho; replace HO_25 := Aside0.mk (Kd.R_after (ok := (fun _ => True)) (by (with_reducible repeat (first | apply Kd.R_alloc | apply Kd.R_drewN | apply Kd.R_drew)); exact Kd.R_mono (Kd.R_far (p := ⟨gb229, 2, none⟩) (Kd.R_far (p := ⟨gb229, 1, none⟩) (Kd.R_far (p := ⟨gb229, 0, none⟩) (Kd.R_types HO_25.out BK229.out (by decide)) (fun _ hk => hk.2) (.bool t241)) (fun _ hk => hk.2) (.bool t242)) (fun _ hk => hk.2) (.int .i64 t243)) (fun _ hk => ⟨trivial, hk.1⟩)) hg hat); replace BK228 := Aside0.mk (blk_grown (g := gb228) (o := .cells #[.bool x229000_1, .bool x229001_1, .int .i64 x229002_1] 46 (0, 0)) (bk BK228.out) hg (Kd.R_ne HO_6.out BK228.out (by decide))); replace BK229 := Aside0.mk (blk_grown (g := gb229) (o := .cells #[.bool t241, .bool t242, .int .i64 t243] 46 (0, 0)) (by (with_reducible repeat (first | refine blk_drewN ?_ _ | refine blk_drew ?_ | refine blk_alloc ?_ _)); refine blk_put (cs := #[.bool t241, .bool t242, .int .i64 x230002_1]) ?_ 2 _ rfl; (with_reducible repeat (first | refine blk_drewN ?_ _ | refine blk_drew ?_ | refine blk_alloc ?_ _)); refine blk_put (cs := #[.bool t241, .bool x230001_1, .int .i64 x230002_1]) ?_ 1 _ rfl; (with_reducible repeat (first | refine blk_drewN ?_ _ | refine blk_drew ?_ | refine blk_alloc ?_ _)); refine blk_put (cs := #[.bool x230000_1, .bool x230001_1, .int .i64 x230002_1]) ?_ 0 _ rfl; (with_reducible repeat (first | refine blk_drewN ?_ _ | refine blk_drew ?_ | refine blk_alloc ?_ _)); exact BK229.out) hg (Kd.R_ne HO_6.out BK229.out (by decide))); replace HB := Aside0.mk (hb); have HO247 := Aside0.mk (ho); clear HO_6 ho hb hg hat))
           go_roundg kj21
           case measure => have := HK1.out; have := HJ21.out; omega
           case rel => exact ⟨(ji37), (y245), (wrap64 (x27_1 + 1)), (x229000_1), (x229001_1), (x229002_1), (t241), (t242), (t243), (by first | rfl | (simp; done) | (simp only [← hji37] <;> (first | rfl | simp)) | (simp [*]; done)), rs, H', ⟨by have := HK1.out; have := HJ21.out; omega⟩, ⟨kr HO247.out⟩, ⟨by (with_reducible repeat (first | apply Kd.R_alloc | apply Kd.R_drewN | apply Kd.R_drew)); exact Kd.R_mono HO_25.out (fun _ hk => hk.2)⟩, ⟨bk BK228.out⟩, ⟨bk BK229.out⟩, ⟨bl⟩⟩
         ·replace c30 := Bool.eq_false_iff.mpr c30
          subst c30
          replace H : (some (false, false, 0, 5)) = some (r1, r2, r3, r4) := by rw [if_neg (show ¬ (false = true) by decide)] at H; exact H
          simp only [Option.some.injEq, Prod.mk.injEq] at H
          obtain ⟨rfl, rfl, rfl, rfl⟩ := H
          have hnb44 := NB229_228.out
          have hnc44 := NB228_229.out
          have hcz45_0 := cz BK229.out 0 (.bool x230000_1)
          have hcz45_1 := cz BK229.out 1 (.bool x230001_1)
          have hcz45_2 := cz BK229.out 2 (.int .i64 x230002_1)
          have hfz45_0 := blk_frozen BK229.out 0
          have hfz45_1 := blk_frozen BK229.out 1
          have hfz45_2 := blk_frozen BK229.out 2
          obtain ⟨nS_, fS_, hfS_, hfn_, hnn_, hnb_, hcS_⟩ := path_ParseParams_run.one A29.out
          go_wp2_with (first | ((with_reducible refine gate_callv (c := .tmp 54) rfl ?_); refine goesV_ (some 56) rfl rfl (c := .tmp 54) (by first | exact hfS_ | rfl) hfn_ hnn_ hnb_ #[.pointer (some ⟨gb229, 0, none⟩), .string t235] rfl ml ?_; (refine (hcS_ gb229 _ (bk BK229.out)).mono ?_); rintro e w_ ⟨rfl, w46, hb, rfl⟩; refine ⟨_, rfl, ?_⟩; replace HO_6 := Aside0.mk (Kd.R_below (kr HO_6.out) hb); replace HO_25 := Aside0.mk (Kd.R_below (kr HO_25.out) hb); replace BK228 := Aside0.mk (kb BK228.out hb); replace BK229 := Aside0.mk (kb BK229.out hb); replace HB := Aside0.mk (below_step bl hb); (try clear hb); (try clear hb2); (try clear hk); (try clear hi); have hcz47_0 := cz BK229.out 0 (.bool x230000_1); have hcz47_1 := cz BK229.out 1 (.bool x230001_1); have hcz47_2 := cz BK229.out 2 (.int .i64 x230002_1); have hfz47_0 := blk_frozen BK229.out 0; have hfz47_1 := blk_frozen BK229.out 1; have hfz47_2 := blk_frozen BK229.out 2; have hcz48_0 := cz BK228.out 0 (.bool x229000_1); have hcz48_1 := cz BK228.out 1 (.bool x229001_1); have hcz48_2 := cz BK228.out 2 (.int .i64 x229002_1); have hfz48_0 := blk_frozen BK228.out 0; have hfz48_1 := blk_frozen BK228.out 1; have hfz48_2 := blk_frozen BK228.out 2))
          refine bodyPost_ret (results_ct rfl _ _ gb228 46 #[.bool false, .bool false, .int .i64 0] (0, 0) _ rfl (by (with_reducible repeat (first | refine blk_drewN ?_ _ | refine blk_drew ?_ | refine blk_alloc ?_ _)); refine blk_put (cs := #[.bool false, .bool false, .int .i64 x229002_1]) ?_ 2 _ rfl; (with_reducible repeat (first | refine blk_drewN ?_ _ | refine blk_drew ?_ | refine blk_alloc ?_ _)); refine blk_put (cs := #[.bool false, .bool x229001_1, .int .i64 x229002_1]) ?_ 1 _ rfl; (with_reducible repeat (first | refine blk_drewN ?_ _ | refine blk_drew ?_ | refine blk_alloc ?_ _)); refine blk_put (cs := #[.bool x229000_1, .bool x229001_1, .int .i64 x229002_1]) ?_ 0 _ rfl; (with_reducible repeat (first | refine blk_drewN ?_ _ | refine blk_drew ?_ | refine blk_alloc ?_ _)); refine blk_far ?_ NB228_229.out _; (with_reducible repeat (first | refine blk_drewN ?_ _ | refine blk_drew ?_ | refine blk_alloc ?_ _)); refine blk_far ?_ NB228_229.out _; (with_reducible repeat (first | refine blk_drewN ?_ _ | refine blk_drew ?_ | refine blk_alloc ?_ _)); refine blk_far ?_ NB228_229.out _; (with_reducible repeat (first | refine blk_drewN ?_ _ | refine blk_drew ?_ | refine blk_alloc ?_ _)); exact BK228.out) Tryz.underlying46 rfl kf) rfl ?_
          exact ⟨rf, bl⟩
        ·replace c28 := Bool.eq_false_iff.mpr c28
         subst c28
         replace H : (if t239 = true then (if t236 = true then (path_ParseParams.j2 kj21 x5_1 x6_1 t234 t235 t237 t238 1 t230 (t230.length : Int) x27_1 (t234.toList == ([115, 105, 122, 101] : List UInt8)) x230000_1 x230001_1 x230002_1) else (path_ParseParams.j2 kj21 x5_1 x6_1 t234 t235 t237 t238 1 t230 (t230.length : Int) x27_1 false x230000_1 x230001_1 x230002_1)) else (path_ParseParams.j2 kj21 x5_1 x6_1 t234 t235 t237 t238 1 t230 (t230.length : Int) x27_1 false x230000_1 x230001_1 x230002_1)) = some (r1, r2, r3, r4) := by rw [if_neg (show ¬ (false = true) by decide)] at H; exact H
         have HC49 := Aside0.mk H
         clear H
         go_upto_region 16 with (fail)
         go_cut [64] (fun v64 wc => ∃ (kq : Nat) (x64_48 : Bool), v64 = .bool x64_48 ∧ Aside0 (path_ParseParams.j2 kq x5_1 x6_1 t234 t235 t237 t238 1 t230 (t230.length : Int) x27_1 x64_48 x230000_1 x230001_1 x230002_1 = some (r1, r2, r3, r4)) ∧ Aside0 (kq ≤ kj21) ∧ Aside0 (Kd.R Kd.string 9 wc w.heap.size (fun k_ => some k_ ≠ ((.slice (some ad233) t230.length co16) : Value).ownBlock) u6 x6_1) ∧ Aside0 (Kd.R Kd.string 9 wc w.heap.size (fun k_ => some k_ ≠ (u6 : Value).ownBlock) (.slice (some ad233) t230.length co16) t230) ∧ Aside0 (wc.heap[gb228]? = some (.cells #[.bool x229000_1, .bool x229001_1, .int .i64 x229002_1] 46 (0, 0))) ∧ Aside0 (wc.heap[gb229]? = some (.cells #[.bool x230000_1, .bool x230001_1, .int .i64 x230002_1] 46 (0, 0))) ∧ Aside0 (Below w.heap.size w wc))
         case first =>
          have H := HC49.out
          clear HC49
          by_cases c50 : t239 = true
          ·subst c50
           replace H : (if t236 = true then (path_ParseParams.j2 kj21 x5_1 x6_1 t234 t235 t237 t238 1 t230 (t230.length : Int) x27_1 (t234.toList == ([115, 105, 122, 101] : List UInt8)) x230000_1 x230001_1 x230002_1) else (path_ParseParams.j2 kj21 x5_1 x6_1 t234 t235 t237 t238 1 t230 (t230.length : Int) x27_1 false x230000_1 x230001_1 x230002_1)) = some (r1, r2, r3, r4) := by rw [if_pos rfl] at H; exact H
           by_cases c51 : t236 = true
           ·subst c51
            replace H : (path_ParseParams.j2 kj21 x5_1 x6_1 t234 t235 t237 t238 1 t230 (t230.length : Int) x27_1 (t234.toList == ([115, 105, 122, 101] : List UInt8)) x230000_1 x230001_1 x230002_1) = some (r1, r2, r3, r4) := by rw [if_pos rfl] at H; exact H
            have H' := Aside0.mk H
            clear H
            go_wp2
            go_meet
            case rel => exact ⟨_, ((t234.toList == ([115, 105, 122, 101] : List UInt8))), rs, H', ⟨by have := HK1.out; have := HJ21.out; first | omega | exact Nat.le_refl _⟩, ⟨kr HO_6.out⟩, ⟨kr HO_25.out⟩, ⟨bk BK228.out⟩, ⟨bk BK229.out⟩, ⟨bl⟩⟩
           ·replace c51 := Bool.eq_false_iff.mpr c51
            subst c51
            replace H : (path_ParseParams.j2 kj21 x5_1 x6_1 t234 t235 t237 t238 1 t230 (t230.length : Int) x27_1 false x230000_1 x230001_1 x230002_1) = some (r1, r2, r3, r4) := by rw [if_neg (show ¬ (false = true) by decide)] at H; exact H
            have H' := Aside0.mk H
            clear H
            go_wp2
            go_meet
            case rel => exact ⟨_, (false), rs, H', ⟨by have := HK1.out; have := HJ21.out; first | omega | exact Nat.le_refl _⟩, ⟨kr HO_6.out⟩, ⟨kr HO_25.out⟩, ⟨bk BK228.out⟩, ⟨bk BK229.out⟩, ⟨bl⟩⟩
          ·replace c50 := Bool.eq_false_iff.mpr c50
           subst c50
           replace H : (path_ParseParams.j2 kj21 x5_1 x6_1 t234 t235 t237 t238 1 t230 (t230.length : Int) x27_1 false x230000_1 x230001_1 x230002_1) = some (r1, r2, r3, r4) := by rw [if_neg (show ¬ (false = true) by decide)] at H; exact H
           have H' := Aside0.mk H
           clear H
           go_wp2
           go_meet
           case rel => exact ⟨_, (false), rs, H', ⟨by have := HK1.out; have := HJ21.out; first | omega | exact Nat.le_refl _⟩, ⟨kr HO_6.out⟩, ⟨kr HO_25.out⟩, ⟨bk BK228.out⟩, ⟨bk BK229.out⟩, ⟨bl⟩⟩
         case rest =>
          clear HC49
          try clear c1
          try clear c2
          try clear c2b0
          try clear c2b1
          try clear p2
          try clear q2
          try clear hx2
          try clear c3
          try clear c4
          try clear c5
          try clear p6
          try clear c8
          try clear c8b0
          try clear c8b1
          try clear p9
          try clear q9
          try clear hx9
          try clear qi9
          try clear c10
          try clear c10b0
          try clear c10b1
          try clear c11
          try clear c11b0
          try clear c11b1
          try clear c17
          try clear c17b0
          try clear c18
          try clear c18b0
          try clear c19
          try clear c19b0
          try clear p23
          try clear q23
          try clear hx23
          try clear c24
          try clear c25
          try clear c28
          try clear c30
          try clear c31
          try clear c31b0
          try clear c31b1
          try clear c32
          try clear c38
          try clear c39
          try clear c43
          try clear c44
          try clear c50
          try clear c51
          try clear hcz33_0
          try clear hcz33_1
          try clear hcz33_2
          try clear hcz35_0
          try clear hcz35_1
          try clear hcz35_2
          try clear hcz36_0
          try clear hcz36_1
          try clear hcz36_2
          try clear hcz40_0
          try clear hcz40_1
          try clear hcz40_2
          try clear hcz42_0
          try clear hcz42_1
          try clear hcz42_2
          try clear hcz45_0
          try clear hcz45_1
          try clear hcz45_2
          try clear hcz47_0
          try clear hcz47_1
          try clear hcz47_2
          try clear hcz48_0
          try clear hcz48_1
          try clear hcz48_2
          try clear hcz6_0
          try clear hcz6_1
          try clear hcz6_2
          try clear hcz7_0
          try clear hcz7_1
          try clear hcz7_2
          try clear hfz33_0
          try clear hfz33_1
          try clear hfz33_2
          try clear hfz35_0
          try clear hfz35_1
          try clear hfz35_2
          try clear hfz36_0
          try clear hfz36_1
          try clear hfz36_2
          try clear hfz40_0
          try clear hfz40_1
          try clear hfz40_2
          try clear hfz42_0
          try clear hfz42_1
          try clear hfz42_2
          try clear hfz45_0
          try clear hfz45_1
          try clear hfz45_2
          try clear hfz47_0
          try clear hfz47_1
          try clear hfz47_2
          try clear hfz48_0
          try clear hfz48_1
          try clear hfz48_2
          try clear hfz6_0
          try clear hfz6_1
          try clear hfz6_2
          try clear hfz7_0
          try clear hfz7_1
          try clear hfz7_2
          try clear hx233_0
          try clear p2
          try clear p23
          try clear p233
          try clear p9
          try clear q2
          try clear q23
          try clear q233
          try clear q9
          obtain ⟨kq, x64_48, rfl, HA, HJ48, HO_6, HO_25, BK228, BK229, HB⟩ := hcut
          cases kq with
          | zero => exact absurd HA.out (by simp [path_ParseParams.j2])
          | succ kj48 =>
           have H := HA.out
           clear HA
           simp only [path_ParseParams.j2] at H
           by_cases c52 : x64_48 = true
           ·subst c52
            replace H : ((path_ParseParams_run.f t238 false false 0 t235).bind fun bt249 => (if t237 = true then (if (mx bt249.2.2.2 1) = 5 then (some (false, false, 0, 5)) else (if x6_1.length < 8796093022208 then (path_ParseParams.l0 kj48 (mx x5_1 (mx bt249.2.2.2 1)) (x6_1 ++ [t234]) t230 (t230.length : Int) (wrap64 (x27_1 + 1)) x230000_1 x230001_1 x230002_1) else (none))) else (some (false, false, 0, 5)))) = some (r1, r2, r3, r4) := by rw [if_pos rfl] at H; exact H
            obtain ⟨⟨t249, t250, t251, t252⟩, A530, H⟩ := Option.bind_eq_some_iff.mp H
            replace H : (if t237 = true then (if (mx t252 1) = 5 then (some (false, false, 0, 5)) else (if x6_1.length < 8796093022208 then (path_ParseParams.l0 kj48 (mx x5_1 (mx t252 1)) (x6_1 ++ [t234]) t230 (t230.length : Int) (wrap64 (x27_1 + 1)) x230000_1 x230001_1 x230002_1) else (none))) else (some (false, false, 0, 5))) = some (r1, r2, r3, r4) := H
            have A53 := Aside0.mk A530
            clear A530
            obtain ⟨ji54, hji54⟩ : ∃ j_ : Int, (mx t252 1) = j_ := ⟨_, rfl⟩
            replace H : (if t237 = true then (if (ji54) = 5 then (some (false, false, 0, 5)) else (if x6_1.length < 8796093022208 then (path_ParseParams.l0 kj48 (mx x5_1 (ji54)) (x6_1 ++ [t234]) t230 (t230.length : Int) (wrap64 (x27_1 + 1)) x230000_1 x230001_1 x230002_1) else (none))) else (some (false, false, 0, 5))) = some (r1, r2, r3, r4) := by first | (rw [hji54] at H; exact H) | (simp only [hji54] at H ⊢; exact H)
            (try rw [hji54] at A53)
            (try (have hji54l : 1 ≤ ji54 := by (rw [← hji54]; unfold mx; (repeat' split) <;> omega)))
            (try (have hji54m : 0 ≤ ji54 := by omega))
            have hji54_ : (if t252 < 1 then 1 else t252) = ji54 := hji54
            by_cases c55 : t237 = true
            ·subst c55
             replace H : (if (ji54) = 5 then (some (false, false, 0, 5)) else (if x6_1.length < 8796093022208 then (path_ParseParams.l0 kj48 (mx x5_1 (ji54)) (x6_1 ++ [t234]) t230 (t230.length : Int) (wrap64 (x27_1 + 1)) x230000_1 x230001_1 x230002_1) else (none))) = some (r1, r2, r3, r4) := by rw [if_pos rfl] at H; exact H
             by_cases c56 : (ji54) = 5
             ·rw [if_pos c56] at H
              have c56b0 : ((ji54) == 5) = true := beq_iff_eq.mpr c56
              have c56b1 : ((ji54) != 5) = false := bne_eq_false_iff_eq.mpr c56
              clear c56
              simp only [Option.some.injEq, Prod.mk.injEq] at H
              obtain ⟨rfl, rfl, rfl, rfl⟩ := H
              obtain ⟨nS_, fS_, hfS_, hfn_, hnn_, hnb_, hcS_⟩ := path_ParseParams_run.one A53.out
              go_wp2_with (first | ((with_reducible refine gate_dst (N := 66) rfl ?_); refine box_event ?hg (N := 66) ?hd (cs := #[.bool false, .bool false, .int .i64 0]) (t := 46) ?hr ?_; (case hd => rfl); (case hg => rfl); (case hr => first | (go_simp; done) | (go_simp; rfl)); intro gb248 hg w57 hbox hb; replace HO_6 := Aside0.mk (Kd.R_below (kr HO_6.out) hb); replace HO_25 := Aside0.mk (Kd.R_below (kr HO_25.out) hb); have BK248 := Aside0.mk (hbox); have GW248 := Aside0.mk (gz hg : w.heap.size ≤ gb248); have GE248 := Aside0.mk (gz hg : w.heap.size ≤ gb248); replace HB := Aside0.mk (below_step bl hb); have NB228_248 := Aside0.mk (nl hg BK228.out : gb228 ≠ gb248); have NB248_228 := Aside0.mk (ng hg BK228.out : gb248 ≠ gb228); replace BK228 := Aside0.mk (kb BK228.out hb); have NB229_248 := Aside0.mk (nl hg BK229.out : gb229 ≠ gb248); have NB248_229 := Aside0.mk (ng hg BK229.out : gb248 ≠ gb229); replace BK229 := Aside0.mk (kb BK229.out hb); clear hb hbox hg; have hnb58 := NB248_228.out; have hnc58 := NB228_248.out; have hnb59 := NB248_229.out; have hnc59 := NB229_248.out; have hcz60_0 := cz BK248.out 0 (.bool false); have hcz60_1 := cz BK248.out 1 (.bool false); have hcz60_2 := cz BK248.out 2 (.int .i64 0); have hfz60_0 := blk_frozen BK248.out 0; have hfz60_1 := blk_frozen BK248.out 1; have hfz60_2 := blk_frozen BK248.out 2) | ((with_reducible refine gate_callv (c := .tmp 65) rfl ?_); refine goesV_ (some 68) rfl rfl (c := .tmp 65) (by first | exact hfS_ | rfl) hfn_ hnn_ hnb_ #[.pointer (some ⟨gb248, 0, none⟩), .string t235] rfl ml ?_; (refine (hcS_ gb248 _ (bk BK248.out)).mono ?_); rintro e w_ ⟨rfl, w61, hb, rfl⟩; refine ⟨_, rfl, ?_⟩; replace HO_6 := Aside0.mk (Kd.R_below (kr HO_6.out) hb); replace HO_25 := Aside0.mk (Kd.R_below (kr HO_25.out) hb); replace BK228 := Aside0.mk (kb BK228.out hb); replace BK229 := Aside0.mk (kb BK229.out hb); replace BK248 := Aside0.mk (kb BK248.out hb); replace HB := Aside0.mk (below_step bl hb); (try clear hb); (try clear hb2); (try clear hk); (try clear hi); have hcz62_0 := cz BK248.out 0 (.bool false); have hcz62_1 := cz BK248.out 1 (.bool false); have hcz62_2 := cz BK248.out 2 (.int .i64 0); have hfz62_0 := blk_frozen BK248.out 0; have hfz62_1 := blk_frozen BK248.out 1; have hfz62_2 := blk_frozen BK248.out 2; have hnb63 := NB228_229.out; have hnc63 := NB229_228.out; have hcz64_0 := cz BK228.out 0 (.bool x229000_1); have hcz64_1 := cz BK228.out 1 (.bool x229001_1); have hcz64_2 := cz BK228.out 2 (.int .i64 x229002_1); have hfz64_0 := blk_frozen BK228.out 0; have hfz64_1 := blk_frozen BK228.out 1; have hfz64_2 := blk_frozen BK228.out 2))
              refine bodyPost_ret (results_ct rfl _ _ gb228 46 #[.bool false, .bool false, .int .i64 0] (0, 0) _ rfl (by (with_reducible repeat (first | refine blk_drewN ?_ _ | refine blk_drew ?_ | refine blk_alloc ?_ _)); refine blk_put (cs := #[.bool false, .bool false, .int .i64 x229002_1]) ?_ 2 _ rfl; (with_reducible repeat (first | refine blk_drewN ?_ _ | refine blk_drew ?_ | refine blk_alloc ?_ _)); refine blk_put (cs := #[.bool false, .bool x229001_1, .int .i64 x229002_1]) ?_ 1 _ rfl; (with_reducible repeat (first | refine blk_drewN ?_ _ | refine blk_drew ?_ | refine blk_alloc ?_ _)); refine blk_put (cs := #[.bool x229000_1, .bool x229001_1, .int .i64 x229002_1]) ?_ 0 _ rfl; (with_reducible repeat (first | refine blk_drewN ?_ _ | refine blk_drew ?_ | refine blk_alloc ?_ _)); refine blk_far ?_ NB228_248.out _; (with_reducible repeat (first | refine blk_drewN ?_ _ | refine blk_drew ?_ | refine blk_alloc ?_ _)); refine blk_far ?_ NB228_248.out _; (with_reducible repeat (first | refine blk_drewN ?_ _ | refine blk_drew ?_ | refine blk_alloc ?_ _)); refine blk_far ?_ NB228_248.out _; (with_reducible repeat (first | refine blk_drewN ?_ _ | refine blk_drew ?_ | refine blk_alloc ?_ _)); exact BK228.out) Tryz.underlying46 rfl kf) rfl ?_
              exact ⟨by first | rfl | (simp [bneNil]; done) | (simp [errW_none, errW_some] <;> rfl) | (simp only [← hji54]; first | rfl | (simp [errW_none, errW_some] <;> rfl)) | (simp [*, errW_none, errW_some] <;> rfl), bl⟩
             ·rw [if_neg c56] at H
              have c56b0 : ((ji54) == 5) = false := beq_eq_false_iff_ne.mpr c56
              have c56b1 : ((ji54) != 5) = true := bne_iff_ne.mpr c56
              obtain ⟨ji65, hji65⟩ : ∃ j_ : Int, (mx x5_1 (ji54)) = j_ := ⟨_, rfl⟩
              replace H : (if x6_1.length < 8796093022208 then (path_ParseParams.l0 kj48 ji65 (x6_1 ++ [t234]) t230 (t230.length : Int) (wrap64 (x27_1 + 1)) x230000_1 x230001_1 x230002_1) else (none)) = some (r1, r2, r3, r4) := by first | (rw [hji65] at H; exact H) | (simp only [hji65] at H ⊢; exact H)
              (try rw [hji65] at A53)
              have hji65_ : (if x5_1 < (ji54) then (ji54) else x5_1) = ji65 := hji65
              by_cases c66 : x6_1.length < 8796093022208
              rotate_left
              ·rw [if_neg c66] at H
               exact ab H
              rw [if_pos c66] at H
              have LMc66 := Aside0.mk c66
              clear c66
              obtain ⟨y253, hy253⟩ : ∃ y_ : List ByteArray, y_ = (x6_1 ++ [t234]) := ⟨_, rfl⟩
              replace H : (path_ParseParams.l0 kj48 ji65 y253 t230 (t230.length : Int) (wrap64 (x27_1 + 1)) x230000_1 x230001_1 x230002_1) = some (r1, r2, r3, r4) := by first | (rw [hy253]; with_reducible exact H) | (have H2_ := (Option.bind_some _ _).symm.trans H; rw [hy253]; with_reducible exact H2_) | (have H2_ := (Option.bind_some _ _).symm.trans H; with_reducible exact H2_) | with_reducible exact H | (rw [hy253]; exact H) | exact H
              have Ny253 := Aside0.mk hy253
              clear hy253
              have H' := Aside0.mk H
              clear H
              obtain ⟨nS_, fS_, hfS_, hfn_, hnn_, hnb_, hcS_⟩ := path_ParseParams_run.one A53.out
              go_wp2_with (first | ((with_reducible refine gate_dst (N := 66) rfl ?_); refine box_event ?hg (N := 66) ?hd (cs := #[.bool false, .bool false, .int .i64 0]) (t := 46) ?hr ?_; (case hd => rfl); (case hg => rfl); (case hr => first | (go_simp; done) | (go_simp; rfl)); intro gb248 hg w67 hbox hb; replace HO_6 := Aside0.mk (Kd.R_below (kr HO_6.out) hb); replace HO_25 := Aside0.mk (Kd.R_below (kr HO_25.out) hb); have BK248 := Aside0.mk (hbox); have GW248 := Aside0.mk (gz hg : w.heap.size ≤ gb248); have GE248 := Aside0.mk (gz hg : w.heap.size ≤ gb248); replace HB := Aside0.mk (below_step bl hb); have NB228_248 := Aside0.mk (nl hg BK228.out : gb228 ≠ gb248); have NB248_228 := Aside0.mk (ng hg BK228.out : gb248 ≠ gb228); replace BK228 := Aside0.mk (kb BK228.out hb); have NB229_248 := Aside0.mk (nl hg BK229.out : gb229 ≠ gb248); have NB248_229 := Aside0.mk (ng hg BK229.out : gb248 ≠ gb229); replace BK229 := Aside0.mk (kb BK229.out hb); clear hb hbox hg; have hnb68 := NB248_228.out; have hnc68 := NB228_248.out; have hnb69 := NB248_229.out; have hnc69 := NB229_248.out; have hcz70_0 := cz BK248.out 0 (.bool false); have hcz70_1 := cz BK248.out 1 (.bool false); have hcz70_2 := cz BK248.out 2 (.int .i64 0); have hfz70_0 := blk_frozen BK248.out 0; have hfz70_1 := blk_frozen BK248.out 1; have hfz70_2 := blk_frozen BK248.out 2) | ((with_reducible refine gate_callv (c := .tmp 65) rfl ?_); refine goesV_ (some 68) rfl rfl (c := .tmp 65) (by first | exact hfS_ | rfl) hfn_ hnn_ hnb_ #[.pointer (some ⟨gb248, 0, none⟩), .string t235] rfl ml ?_; (refine (hcS_ gb248 _ (bk BK248.out)).mono ?_); rintro e w_ ⟨rfl, w71, hb, rfl⟩; refine ⟨_, rfl, ?_⟩; replace HO_6 := Aside0.mk (Kd.R_below (kr HO_6.out) hb); replace HO_25 := Aside0.mk (Kd.R_below (kr HO_25.out) hb); replace BK228 := Aside0.mk (kb BK228.out hb); replace BK229 := Aside0.mk (kb BK229.out hb); replace BK248 := Aside0.mk (kb BK248.out hb); replace HB := Aside0.mk (below_step bl hb); (try clear hb); (try clear hb2); (try clear hk); (try clear hi); have hcz72_0 := cz BK248.out 0 (.bool false); have hcz72_1 := cz BK248.out 1 (.bool false); have hcz72_2 := cz BK248.out 2 (.int .i64 0); have hfz72_0 := blk_frozen BK248.out 0; have hfz72_1 := blk_frozen BK248.out 1; have hfz72_2 := blk_frozen BK248.out 2) | ((with_reducible refine gate_builtin (b := .append) (xs := #[.tmp 80, .tmp 82]) rfl ?_); at_builtin; refine Kd.R_append Kd.string (w0 := w) w.heap.size rfl (.tmp 80) (.tmp 82) 22 9 (.string ⟨#[]⟩) 16 rfl Tryz.underlying22 info9 rfl (by decide) (by omega) u6 x6_1 t234 [.string t234] (fun k_ => some k_ ≠ (.slice (some ad233) t230.length co16 : Value).ownBlock) (fun _ => False) rfl (by first | (go_simp; done) | (go_simp; rfl)) ?aP (fun _ hk => hk.elim) ?aF ?aO ?aB ?aS ?aL ?_; (case aP => exact rfl); (case aB => exact bl); (case aF => exact (fun k_ hk => Kd.fresh' (Kd.R_lt (by (with_reducible repeat (first | apply Kd.R_alloc | apply Kd.R_drewN | apply Kd.R_drew)); exact (Kd.R_mono (Kd.R_far (p := ⟨gb248, 2, none⟩) (Kd.R_far (p := ⟨gb248, 1, none⟩) (Kd.R_far (p := ⟨gb248, 0, none⟩) (Kd.R_types HO_25.out BK248.out (by decide)) (fun _ hk => hk.2) (.bool t249)) (fun _ hk => hk.2) (.bool t250)) (fun _ hk => hk.2) (.int .i64 t251)) (fun _ h_ => h_.1)))) k_ hk)); (case aO => exact (by (with_reducible repeat (first | apply Kd.R_alloc | apply Kd.R_drewN | apply Kd.R_drew)); exact Kd.R_mono (Kd.R_far (p := ⟨gb248, 2, none⟩) (Kd.R_far (p := ⟨gb248, 1, none⟩) (Kd.R_far (p := ⟨gb248, 0, none⟩) (Kd.R_types HO_6.out BK248.out (by decide)) (fun _ hk => hk.2) (.bool t249)) (fun _ hk => hk.2) (.bool t250)) (fun _ hk => hk.2) (.int .i64 t251)) (fun _ hk => hk.1))); (case aS => exact (below_size bl)); (case aL => have := LMc66.out; omega); intro v254 w73 ho hb hg hat; rw [← Ny253.out] at ho; replace HO_25 := Aside0.mk (Kd.R_after (ok := (fun _ => True)) (by (with_reducible repeat (first | apply Kd.R_alloc | apply Kd.R_drewN | apply Kd.R_drew)); exact Kd.R_mono (Kd.R_far (p := ⟨gb248, 2, none⟩) (Kd.R_far (p := ⟨gb248, 1, none⟩) (Kd.R_far (p := ⟨gb248, 0, none⟩) (Kd.R_types HO_25.out BK248.out (by decide)) (fun _ hk => hk.2) (.bool t249)) (fun _ hk => hk.2) (.bool t250)) (fun _ hk => hk.2) (.int .i64 t251)) (fun _ hk => ⟨trivial, hk.1⟩)) hg hat); replace BK228 := Aside0.mk (blk_grown (g := gb228) (o := .cells #[.bool x229000_1, .bool x229001_1, .int .i64 x229002_1] 46 (0, 0)) (bk BK228.out) hg (Kd.R_ne HO_6.out BK228.out (by decide))); replace BK229 := Aside0.mk (blk_grown (g := gb229) (o := .cells #[.bool x230000_1, .bool x230001_1, .int .i64 x230002_1] 46 (0, 0)) (bk BK229.out) hg (Kd.R_ne HO_6.out BK229.out (by decide))); replace BK248 := Aside0.mk (blk_grown (g := gb248) (o := .cells #[.bool t249, .bool t250, .int .i64 t251] 46 (0, 0)) (by (with_reducible repeat (first | refine blk_drewN ?_ _ | refine blk_drew ?_ | refine blk_alloc ?_ _)); refine blk_put (cs := #[.bool t249, .bool t250, .int .i64 0]) ?_ 2 _ rfl; (with_reducible repeat (first | refine blk_drewN ?_ _ | refine blk_drew ?_ | refine blk_alloc ?_ _)); refine blk_put (cs := #[.bool t249, .bool false, .int .i64 0]) ?_ 1 _ rfl; (with_reducible repeat (first | refine blk_drewN ?_ _ | refine blk_drew ?_ | refine blk_alloc ?_ _)); refine blk_put (cs := #[.bool false, .bool false, .int .i64 0]) ?_ 0 _ rfl; (with_reducible repeat (first | refine blk_drewN ?_ _ | refine blk_drew ?_ | refine blk_alloc ?_ _)); exact BK248.out) hg (Kd.R_ne HO_6.out BK248.out (by decide))); replace HB := Aside0.mk (hb); have HO255 := Aside0.mk (ho); clear HO_6 ho hb hg hat))
              go_roundg kj48
              case measure => have := HK1.out; have := HJ21.out; have := HJ48.out; omega
              case rel => exact ⟨(ji65), (y253), (wrap64 (x27_1 + 1)), (x229000_1), (x229001_1), (x229002_1), (x230000_1), (x230001_1), (x230002_1), (by first | rfl | (simp; done) | (simp only [← hji65] <;> (first | rfl | simp)) | (simp [*]; done)), rs, H', ⟨by have := HK1.out; have := HJ21.out; have := HJ48.out; omega⟩, ⟨kr HO255.out⟩, ⟨by (with_reducible repeat (first | apply Kd.R_alloc | apply Kd.R_drewN | apply Kd.R_drew)); exact Kd.R_mono HO_25.out (fun _ hk => hk.2)⟩, ⟨bk BK228.out⟩, ⟨bk BK229.out⟩, ⟨bl⟩⟩
            ·replace c55 := Bool.eq_false_iff.mpr c55
             subst c55
             replace H : (some (false, false, 0, 5)) = some (r1, r2, r3, r4) := by rw [if_neg (show ¬ (false = true) by decide)] at H; exact H
             simp only [Option.some.injEq, Prod.mk.injEq] at H
             obtain ⟨rfl, rfl, rfl, rfl⟩ := H
             obtain ⟨nS_, fS_, hfS_, hfn_, hnn_, hnb_, hcS_⟩ := path_ParseParams_run.one A53.out
             go_wp2_with (first | ((with_reducible refine gate_dst (N := 66) rfl ?_); refine box_event ?hg (N := 66) ?hd (cs := #[.bool false, .bool false, .int .i64 0]) (t := 46) ?hr ?_; (case hd => rfl); (case hg => rfl); (case hr => first | (go_simp; done) | (go_simp; rfl)); intro gb248 hg w74 hbox hb; replace HO_6 := Aside0.mk (Kd.R_below (kr HO_6.out) hb); replace HO_25 := Aside0.mk (Kd.R_below (kr HO_25.out) hb); have BK248 := Aside0.mk (hbox); have GW248 := Aside0.mk (gz hg : w.heap.size ≤ gb248); have GE248 := Aside0.mk (gz hg : w.heap.size ≤ gb248); replace HB := Aside0.mk (below_step bl hb); have NB228_248 := Aside0.mk (nl hg BK228.out : gb228 ≠ gb248); have NB248_228 := Aside0.mk (ng hg BK228.out : gb248 ≠ gb228); replace BK228 := Aside0.mk (kb BK228.out hb); have NB229_248 := Aside0.mk (nl hg BK229.out : gb229 ≠ gb248); have NB248_229 := Aside0.mk (ng hg BK229.out : gb248 ≠ gb229); replace BK229 := Aside0.mk (kb BK229.out hb); clear hb hbox hg; have hnb75 := NB248_228.out; have hnc75 := NB228_248.out; have hnb76 := NB248_229.out; have hnc76 := NB229_248.out; have hcz77_0 := cz BK248.out 0 (.bool false); have hcz77_1 := cz BK248.out 1 (.bool false); have hcz77_2 := cz BK248.out 2 (.int .i64 0); have hfz77_0 := blk_frozen BK248.out 0; have hfz77_1 := blk_frozen BK248.out 1; have hfz77_2 := blk_frozen BK248.out 2) | ((with_reducible refine gate_callv (c := .tmp 65) rfl ?_); refine goesV_ (some 68) rfl rfl (c := .tmp 65) (by first | exact hfS_ | rfl) hfn_ hnn_ hnb_ #[.pointer (some ⟨gb248, 0, none⟩), .string t235] rfl ml ?_; (refine (hcS_ gb248 _ (bk BK248.out)).mono ?_); rintro e w_ ⟨rfl, w78, hb, rfl⟩; refine ⟨_, rfl, ?_⟩; replace HO_6 := Aside0.mk (Kd.R_below (kr HO_6.out) hb); replace HO_25 := Aside0.mk (Kd.R_below (kr HO_25.out) hb); replace BK228 := Aside0.mk (kb BK228.out hb); replace BK229 := Aside0.mk (kb BK229.out hb); replace BK248 := Aside0.mk (kb BK248.out hb); replace HB := Aside0.mk (below_step bl hb); (try clear hb); (try clear hb2); (try clear hk); (try clear hi); have hcz79_0 := cz BK248.out 0 (.bool false); have hcz79_1 := cz BK248.out 1 (.bool false); have hcz79_2 := cz BK248.out 2 (.int .i64 0); have hfz79_0 := blk_frozen BK248.out 0; have hfz79_1 := blk_frozen BK248.out 1; have hfz79_2 := blk_frozen BK248.out 2; have hnb80 := NB228_229.out; have hnc80 := NB229_228.out; have hcz81_0 := cz BK228.out 0 (.bool x229000_1); have hcz81_1 := cz BK228.out 1 (.bool x229001_1); have hcz81_2 := cz BK228.out 2 (.int .i64 x229002_1); have hfz81_0 := blk_frozen BK228.out 0; have hfz81_1 := blk_frozen BK228.out 1; have hfz81_2 := blk_frozen BK228.out 2))
             refine bodyPost_ret (results_ct rfl _ _ gb228 46 #[.bool false, .bool false, .int .i64 0] (0, 0) _ rfl (by (with_reducible repeat (first | refine blk_drewN ?_ _ | refine blk_drew ?_ | refine blk_alloc ?_ _)); refine blk_put (cs := #[.bool false, .bool false, .int .i64 x229002_1]) ?_ 2 _ rfl; (with_reducible repeat (first | refine blk_drewN ?_ _ | refine blk_drew ?_ | refine blk_alloc ?_ _)); refine blk_put (cs := #[.bool false, .bool x229001_1, .int .i64 x229002_1]) ?_ 1 _ rfl; (with_reducible repeat (first | refine blk_drewN ?_ _ | refine blk_drew ?_ | refine blk_alloc ?_ _)); refine blk_put (cs := #[.bool x229000_1, .bool x229001_1, .int .i64 x229002_1]) ?_ 0 _ rfl; (with_reducible repeat (first | refine blk_drewN ?_ _ | refine blk_drew ?_ | refine blk_alloc ?_ _)); refine blk_far ?_ NB228_248.out _; (with_reducible repeat (first | refine blk_drewN ?_ _ | refine blk_drew ?_ | refine blk_alloc ?_ _)); refine blk_far ?_ NB228_248.out _; (with_reducible repeat (first | refine blk_drewN ?_ _ | refine blk_drew ?_ | refine blk_alloc ?_ _)); refine blk_far ?_ NB228_248.out _; (with_reducible repeat (first | refine blk_drewN ?_ _ | refine blk_drew ?_ | refine blk_alloc ?_ _)); exact BK228.out) Tryz.underlying46 rfl kf) rfl ?_
             exact ⟨by first | rfl | (simp [bneNil]; done) | (simp [errW_none, errW_some] <;> rfl) | (simp only [← hji54]; first | rfl | (simp [errW_none, errW_some] <;> rfl)) | (simp [*, errW_none, errW_some] <;> rfl), bl⟩
           ·replace c52 := Bool.eq_false_iff.mpr c52
            subst c52
            replace H : (if t237 = true then (if 1 = 5 then (some (false, false, 0, 5)) else (if x6_1.length < 8796093022208 then (path_ParseParams.l0 kj48 (mx x5_1 1) (x6_1 ++ [t234]) t230 (t230.length : Int) (wrap64 (x27_1 + 1)) x230000_1 x230001_1 x230002_1) else (none))) else (some (false, false, 0, 5))) = some (r1, r2, r3, r4) := by rw [if_neg (show ¬ (false = true) by decide)] at H; exact H
            by_cases c82 : t237 = true
            ·subst c82
             replace H : (if 1 = 5 then (some (false, false, 0, 5)) else (if x6_1.length < 8796093022208 then (path_ParseParams.l0 kj48 (mx x5_1 1) (x6_1 ++ [t234]) t230 (t230.length : Int) (wrap64 (x27_1 + 1)) x230000_1 x230001_1 x230002_1) else (none))) = some (r1, r2, r3, r4) := by rw [if_pos rfl] at H; exact H
             by_cases c83 : 1 = 5
             ·exact absurd c83 (by decide)
             ·rw [if_neg c83] at H
              have c83b0 : (1 == 5) = false := beq_eq_false_iff_ne.mpr c83
              have c83b1 : (1 != 5) = true := bne_iff_ne.mpr c83
              obtain ⟨ji86, hji86⟩ : ∃ j_ : Int, (mx x5_1 1) = j_ := ⟨_, rfl⟩
              replace H : (if x6_1.length < 8796093022208 then (path_ParseParams.l0 kj48 ji86 (x6_1 ++ [t234]) t230 (t230.length : Int) (wrap64 (x27_1 + 1)) x230000_1 x230001_1 x230002_1) else (none)) = some (r1, r2, r3, r4) := by first | (rw [hji86] at H; exact H) | (simp only [hji86] at H ⊢; exact H)
              have hji86_ : (if x5_1 < 1 then 1 else x5_1) = ji86 := hji86
              by_cases c87 : x6_1.length < 8796093022208
              rotate_left
              ·rw [if_neg c87] at H
               exact ab H
              rw [if_pos c87] at H
              have LMc87 := Aside0.mk c87
              clear c87
              obtain ⟨y256, hy256⟩ : ∃ y_ : List ByteArray, y_ = (x6_1 ++ [t234]) := ⟨_, rfl⟩
              replace H : (path_ParseParams.l0 kj48 ji86 y256 t230 (t230.length : Int) (wrap64 (x27_1 + 1)) x230000_1 x230001_1 x230002_1) = some (r1, r2, r3, r4) := by first | (rw [hy256]; with_reducible exact H) | (have H2_ := (Option.bind_some _ _).symm.trans H; rw [hy256]; with_reducible exact H2_) | (have H2_ := (Option.bind_some _ _).symm.trans H; with_reducible exact H2_) | with_reducible exact H | (rw [hy256]; exact H) | exact H
              have Ny256 := Aside0.mk hy256
              clear hy256
              have H' := Aside0.mk H
              clear H
              go_wp2_with (first | ((with_reducible refine gate_builtin (b := .append) (xs := #[.tmp 80, .tmp 82]) rfl ?_); at_builtin; refine Kd.R_append Kd.string (w0 := w) w.heap.size rfl (.tmp 80) (.tmp 82) 22 9 (.string ⟨#[]⟩) 16 rfl Tryz.underlying22 info9 rfl (by decide) (by omega) u6 x6_1 t234 [.string t234] (fun k_ => some k_ ≠ (.slice (some ad233) t230.length co16 : Value).ownBlock) (fun _ => False) rfl rfl ?aP (fun _ hk => hk.elim) ?aF ?aO ?aB ?aS ?aL ?_; (case aP => exact rfl); (case aB => exact bl); (case aF => exact (fun k_ hk => Kd.fresh' (Kd.R_lt (kr HO_25.out)) k_ hk)); (case aO => exact (kr HO_6.out)); (case aS => exact (below_size bl)); (case aL => have := LMc87.out; omega); intro v257 w88 ho hb hg hat; rw [← Ny256.out] at ho; replace HO_25 := Aside0.mk (Kd.R_after (ok := (fun _ => True)) (by (with_reducible repeat (first | apply Kd.R_alloc | apply Kd.R_drewN | apply Kd.R_drew)); exact Kd.R_mono HO_25.out (fun _ hk => ⟨trivial, hk⟩)) hg hat); replace BK228 := Aside0.mk (blk_grown (g := gb228) (o := .cells #[.bool x229000_1, .bool x229001_1, .int .i64 x229002_1] 46 (0, 0)) (bk BK228.out) hg (Kd.R_ne HO_6.out BK228.out (by decide))); replace BK229 := Aside0.mk (blk_grown (g := gb229) (o := .cells #[.bool x230000_1, .bool x230001_1, .int .i64 x230002_1] 46 (0, 0)) (bk BK229.out) hg (Kd.R_ne HO_6.out BK229.out (by decide))); replace HB := Aside0.mk (hb); have HO258 := Aside0.mk (ho); clear HO_6 ho hb hg hat))
              go_roundg kj48
              case measure => have := HK1.out; have := HJ21.out; have := HJ48.out; omega
              case rel => exact ⟨(ji86), (y256), (wrap64 (x27_1 + 1)), (x229000_1), (x229001_1), (x229002_1), (x230000_1), (x230001_1), (x230002_1), (by first | rfl | (simp; done) | (simp only [← hji86] <;> (first | rfl | simp)) | (simp [*]; done)), rs, H', ⟨by have := HK1.out; have := HJ21.out; have := HJ48.out; omega⟩, ⟨kr HO258.out⟩, ⟨by (with_reducible repeat (first | apply Kd.R_alloc | apply Kd.R_drewN | apply Kd.R_drew)); exact Kd.R_mono HO_25.out (fun _ hk => hk.2)⟩, ⟨bk BK228.out⟩, ⟨bk BK229.out⟩, ⟨bl⟩⟩
            ·replace c82 := Bool.eq_false_iff.mpr c82
             subst c82
             replace H : (some (false, false, 0, 5)) = some (r1, r2, r3, r4) := by rw [if_neg (show ¬ (false = true) by decide)] at H; exact H
             simp only [Option.some.injEq, Prod.mk.injEq] at H
             obtain ⟨rfl, rfl, rfl, rfl⟩ := H
             have hnb89 := NB228_229.out
             have hnc89 := NB229_228.out
             have hcz90_0 := cz BK228.out 0 (.bool x229000_1)
             have hcz90_1 := cz BK228.out 1 (.bool x229001_1)
             have hcz90_2 := cz BK228.out 2 (.int .i64 x229002_1)
             have hfz90_0 := blk_frozen BK228.out 0
             have hfz90_1 := blk_frozen BK228.out 1
             have hfz90_2 := blk_frozen BK228.out 2
             go_wp2
             refine bodyPost_ret (results_ct rfl _ _ gb228 46 #[.bool false, .bool false, .int .i64 0] (0, 0) _ rfl (by (with_reducible repeat (first | refine blk_drewN ?_ _ | refine blk_drew ?_ | refine blk_alloc ?_ _)); refine blk_put (cs := #[.bool false, .bool false, .int .i64 x229002_1]) ?_ 2 _ rfl; (with_reducible repeat (first | refine blk_drewN ?_ _ | refine blk_drew ?_ | refine blk_alloc ?_ _)); refine blk_put (cs := #[.bool false, .bool x229001_1, .int .i64 x229002_1]) ?_ 1 _ rfl; (with_reducible repeat (first | refine blk_drewN ?_ _ | refine blk_drew ?_ | refine blk_alloc ?_ _)); refine blk_put (cs := #[.bool x229000_1, .bool x229001_1, .int .i64 x229002_1]) ?_ 0 _ rfl; (with_reducible repeat (first | refine blk_drewN ?_ _ | refine blk_drew ?_ | refine blk_alloc ?_ _)); exact BK228.out) Tryz.underlying46 rfl kf) rfl ?_
             exact ⟨rf, bl⟩
     ·rw [if_neg c17] at H
      have c17b0 : decide (x27_1 < (t230.length : Int)) = false := decide_eq_false c17
      clear c17
      by_cases c91 : x5_1 = 0
      ·rw [if_pos c91] at H
       have c91b0 : (x5_1 == 0) = true := beq_iff_eq.mpr c91
       have c91b1 : (x5_1 != 0) = false := bne_eq_false_iff_eq.mpr c91
       clear c91
       simp only [Option.some.injEq, Prod.mk.injEq] at H
       obtain ⟨rfl, rfl, rfl, rfl⟩ := H
       have hnb92 := NB229_228.out
       have hnc92 := NB228_229.out
       have hcz93_0 := cz BK229.out 0 (.bool x230000_1)
       have hcz93_1 := cz BK229.out 1 (.bool x230001_1)
       have hcz93_2 := cz BK229.out 2 (.int .i64 x230002_1)
       have hfz93_0 := blk_frozen BK229.out 0
       have hfz93_1 := blk_frozen BK229.out 1
       have hfz93_2 := blk_frozen BK229.out 2
       have hcz94_0 := cz BK228.out 0 (.bool x229000_1)
       have hcz94_1 := cz BK228.out 1 (.bool x229001_1)
       have hcz94_2 := cz BK228.out 2 (.int .i64 x229002_1)
       have hfz94_0 := blk_frozen BK228.out 0
       have hfz94_1 := blk_frozen BK228.out 1
       have hfz94_2 := blk_frozen BK228.out 2
       go_wp2
       refine bodyPost_ret (results_ct rfl _ _ gb228 46 #[.bool x230000_1, .bool x230001_1, .int .i64 x230002_1] (0, 0) _ rfl (by (with_reducible repeat (first | refine blk_drewN ?_ _ | refine blk_drew ?_ | refine blk_alloc ?_ _)); refine blk_put (cs := #[.bool x230000_1, .bool x230001_1, .int .i64 x229002_1]) ?_ 2 _ rfl; (with_reducible repeat (first | refine blk_drewN ?_ _ | refine blk_drew ?_ | refine blk_alloc ?_ _)); refine blk_put (cs := #[.bool x230000_1, .bool x229001_1, .int .i64 x229002_1]) ?_ 1 _ rfl; (with_reducible repeat (first | refine blk_drewN ?_ _ | refine blk_drew ?_ | refine blk_alloc ?_ _)); refine blk_put (cs := #[.bool x229000_1, .bool x229001_1, .int .i64 x229002_1]) ?_ 0 _ rfl; (with_reducible repeat (first | refine blk_drewN ?_ _ | refine blk_drew ?_ | refine blk_alloc ?_ _)); exact BK228.out) Tryz.underlying46 rfl kf) rfl ?_
       exact ⟨rf, bl⟩
      ·rw [if_neg c91] at H
       have c91b0 : (x5_1 == 0) = false := beq_eq_false_iff_ne.mpr c91
       have c91b1 : (x5_1 != 0) = true := bne_iff_ne.mpr c91
       simp only [Option.some.injEq, Prod.mk.injEq] at H
       obtain ⟨rfl, rfl, rfl, rfl⟩ := H
       have hnb95 := NB228_229.out
       have hnc95 := NB229_228.out
       have hcz96_0 := cz BK228.out 0 (.bool x229000_1)
       have hcz96_1 := cz BK228.out 1 (.bool x229001_1)
       have hcz96_2 := cz BK228.out 2 (.int .i64 x229002_1)
       have hfz96_0 := blk_frozen BK228.out 0
       have hfz96_1 := blk_frozen BK228.out 1
       have hfz96_2 := blk_frozen BK228.out 2
       go_wp2
       refine bodyPost_ret (results_ct rfl _ _ gb228 46 #[.bool false, .bool false, .int .i64 0] (0, 0) _ rfl (by (with_reducible repeat (first | refine blk_drewN ?_ _ | refine blk_drew ?_ | refine blk_alloc ?_ _)); refine blk_put (cs := #[.bool false, .bool false, .int .i64 x229002_1]) ?_ 2 _ rfl; (with_reducible repeat (first | refine blk_drewN ?_ _ | refine blk_drew ?_ | refine blk_alloc ?_ _)); refine blk_put (cs := #[.bool false, .bool x229001_1, .int .i64 x229002_1]) ?_ 1 _ rfl; (with_reducible repeat (first | refine blk_drewN ?_ _ | refine blk_drew ?_ | refine blk_alloc ?_ _)); refine blk_put (cs := #[.bool x229000_1, .bool x229001_1, .int .i64 x229002_1]) ?_ 0 _ rfl; (with_reducible repeat (first | refine blk_drewN ?_ _ | refine blk_drew ?_ | refine blk_alloc ?_ _)); exact BK228.out) Tryz.underlying46 rfl kf) rfl ?_
       exact ⟨rf, bl⟩
  ·rw [if_neg c10] at H
   have c10b0 : ((bt a0 0) == 32) = false := beq_eq_false_iff_ne.mpr c10
   have c10b1 : ((bt a0 0) != 32) = true := bne_iff_ne.mpr c10
   simp only [Option.some.injEq, Prod.mk.injEq] at H
   obtain ⟨rfl, rfl, rfl, rfl⟩ := H
   go_enter Tryz.func17, Tryz.ntmps17
   go_wp2_with (first | ((with_reducible refine gate_dst (N := 2) rfl ?_); refine box_event ?hg (N := 2) ?hd (cs := #[.bool false, .bool false, .int .i64 0]) (t := 46) ?hr ?_; (case hd => rfl); (case hg => rfl); (case hr => first | (go_simp; done) | (go_simp; rfl)); intro gb228 hg w97 hbox hb; have BK228 := Aside0.mk (hbox); have GW228 := Aside0.mk (gz hg : w.heap.size ≤ gb228); have GE228 := Aside0.mk (gz hg : w.heap.size ≤ gb228); replace HB := Aside0.mk (below_step bl hb); clear hb hbox hg) | ((with_reducible refine gate_dst (N := 4) rfl ?_); refine box_event ?hg (N := 4) ?hd (cs := #[.bool false, .bool false, .int .i64 0]) (t := 46) ?hr ?_; (case hd => rfl); (case hg => rfl); (case hr => first | (go_simp; done) | (go_simp; rfl)); intro gb229 hg w98 hbox hb; have BK229 := Aside0.mk (hbox); have GW229 := Aside0.mk (gz hg : w.heap.size ≤ gb229); have GE229 := Aside0.mk (gz hg : w.heap.size ≤ gb229); replace HB := Aside0.mk (below_step bl hb); have NB228_229 := Aside0.mk (nl hg BK228.out : gb228 ≠ gb229); have NB229_228 := Aside0.mk (ng hg BK228.out : gb229 ≠ gb228); replace BK228 := Aside0.mk (kb BK228.out hb); clear hb hbox hg; have p9 : 0 ≤ (0 : Int) := (by omega); have q9 : 0 < a0.size := (by have : (0 : Int) < (a0.size : Int) := od; omega); have hx9 : ∀ h : 0 < a0.size, ((a0[0]'h).toNat : Int) = bt a0 0 := bt_at a0 0; clear p9; have qi9 : (0 < (a0.size : Int)) = True := eq_true (od); replace q9 := eq_true q9; have hnb99 := NB229_228.out; have hnc99 := NB228_229.out; have hcz100_0 := cz BK229.out 0 (.bool false); have hcz100_1 := cz BK229.out 1 (.bool false); have hcz100_2 := cz BK229.out 2 (.int .i64 0); have hfz100_0 := blk_frozen BK229.out 0; have hfz100_1 := blk_frozen BK229.out 1; have hfz100_2 := blk_frozen BK229.out 2; have hcz101_0 := cz BK228.out 0 (.bool false); have hcz101_1 := cz BK228.out 1 (.bool false); have hcz101_2 := cz BK228.out 2 (.int .i64 0); have hfz101_0 := blk_frozen BK228.out 0; have hfz101_1 := blk_frozen BK228.out 1; have hfz101_2 := blk_frozen BK228.out 2))
   refine bodyPost_ret (results_ct rfl _ _ gb228 46 #[.bool false, .bool false, .int .i64 0] (0, 0) _ rfl (by (with_reducible repeat (first | refine blk_drewN ?_ _ | refine blk_drew ?_ | refine blk_alloc ?_ _)); refine blk_put (cs := #[.bool false, .bool false, .int .i64 0]) ?_ 2 _ rfl; (with_reducible repeat (first | refine blk_drewN ?_ _ | refine blk_drew ?_ | refine blk_alloc ?_ _)); refine blk_put (cs := #[.bool false, .bool false, .int .i64 0]) ?_ 1 _ rfl; (with_reducible repeat (first | refine blk_drewN ?_ _ | refine blk_drew ?_ | refine blk_alloc ?_ _)); refine blk_put (cs := #[.bool false, .bool false, .int .i64 0]) ?_ 0 _ rfl; (with_reducible repeat (first | refine blk_drewN ?_ _ | refine blk_drew ?_ | refine blk_alloc ?_ _)); exact BK228.out) Tryz.underlying46 rfl kf) rfl ?_
   exact ⟨rf, bl⟩

end Go.Proofs.YtgelfnjicglmbaaGreatDoor.Q
end
section
namespace Go.Proofs.YtgelfnjicglmbaaGreatDoor.Q

/-! ### path_From: function 18 -/
mutual
def path_From.j0 : Nat → ByteArray → Int → Bool → Bool → Bool → List ByteArray → ByteArray → ByteArray → Option (Bool × Bool × List ByteArray × ByteArray × ByteArray × Bool × Bool × Int × Int)
 | 0, _, _, _, _, _, _, _, _ => none
 | k + 1, x6, x7, x20, x271000, x271001, x271002, x271003, x271004 => if x20 = true then (path_From.j1 k x6 5 x271000 x271001 x271002 x271003 x271004) else (path_From.j1 k x6 x7 x271000 x271001 x271002 x271003 x271004)
def path_From.j1 : Nat → ByteArray → Int → Bool → Bool → List ByteArray → ByteArray → ByteArray → Option (Bool × Bool × List ByteArray × ByteArray × ByteArray × Bool × Bool × Int × Int)
 | 0, _, _, _, _, _, _, _ => none
 | k + 1, x6, x7, x271000, x271001, x271002, x271003, x271004 => if x7 = 0 then ((path_ParseParams.f k x6).bind fun bt271 => (if bt271.2.2.2 = 0 then (some (x271000, x271001, x271002, x271003, x271004, bt271.1, bt271.2.1, bt271.2.2.1, 0)) else (some (false, false, ([] : List ByteArray), (⟨#[]⟩ : ByteArray), (⟨#[]⟩ : ByteArray), false, false, 0, bt271.2.2.2)))) else (some (false, false, ([] : List ByteArray), (⟨#[]⟩ : ByteArray), (⟨#[]⟩ : ByteArray), false, false, 0, x7))
end
def path_From.f (k : Nat) (a0 : ByteArray) : Option (Bool × Bool × List ByteArray × ByteArray × ByteArray × Bool × Bool × Int × Int) := (path_Parse.f k a0).bind fun bt261 => (if bt261.2.2.2.2.2.2 = 0 then (path_From.j0 k bt261.2.2.2.2.2.1 bt261.2.2.2.2.2.2 bt261.2.1 bt261.1 bt261.2.1 bt261.2.2.1 bt261.2.2.2.1 bt261.2.2.2.2.1) else (path_From.j0 k bt261.2.2.2.2.2.1 bt261.2.2.2.2.2.2 false bt261.1 bt261.2.1 bt261.2.2.1 bt261.2.2.2.1 bt261.2.2.2.2.1))
theorem path_From.mono_l : ∀ k, (∀ y0 y1 y2 y3 y4 y5 y6 y7, LeO (path_From.j0 k y0 y1 y2 y3 y4 y5 y6 y7) (path_From.j0 (k + 1) y0 y1 y2 y3 y4 y5 y6 y7)) ∧ (∀ y0 y1 y2 y3 y4 y5 y6, LeO (path_From.j1 k y0 y1 y2 y3 y4 y5 y6) (path_From.j1 (k + 1) y0 y1 y2 y3 y4 y5 y6))
 | 0 => ⟨fun _ _ _ _ _ _ _ _ r h => by simp [path_From.j0] at h, fun _ _ _ _ _ _ _ r h => by simp [path_From.j1] at h⟩
 | k + 1 => by
  obtain ⟨ih0, ih1⟩ := path_From.mono_l k
  refine ⟨?_, ?_⟩
  ·intro y0 y1 y2 y3 y4 y5 y6 y7
   unfold path_From.j0
   repeat' first
   | (with_reducible first | exact ih0 _ _ _ _ _ _ _ _ | exact ih1 _ _ _ _ _ _ _ | exact path_Parse.mono _ _ | exact path_ParseParams.mono _ _ | exact LeO.refl _ | exact LeO.none _ | refine LeO.ite ?_ ?_ | refine LeO.bind ?_ (fun _ => ?_))
  ·intro y0 y1 y2 y3 y4 y5 y6
   unfold path_From.j1
   repeat' first
   | (with_reducible first | exact ih0 _ _ _ _ _ _ _ _ | exact ih1 _ _ _ _ _ _ _ | exact path_Parse.mono _ _ | exact path_ParseParams.mono _ _ | exact LeO.refl _ | exact LeO.none _ | refine LeO.ite ?_ ?_ | refine LeO.bind ?_ (fun _ => ?_))
theorem path_From.mono : ∀ a0 k, LeO (path_From.f k a0) (path_From.f (k + 1) a0) := by
 intro a0 k
 obtain ⟨ih0, ih1⟩ := path_From.mono_l k
 unfold path_From.f
 repeat' first
   | (with_reducible first | exact ih0 _ _ _ _ _ _ _ _ | exact ih1 _ _ _ _ _ _ _ | exact path_Parse.mono _ _ | exact path_ParseParams.mono _ _ | exact LeO.refl _ | exact LeO.none _ | refine LeO.ite ?_ ?_ | refine LeO.bind ?_ (fun _ => ?_))
theorem path_From.calls (k : Nat) (a0 : ByteArray) (r1 : Bool) (r2 : Bool) (r3 : List ByteArray) (r4 : ByteArray) (r5 : ByteArray) (r6 : Bool) (r7 : Bool) (r8 : Int) (r9 : Int) (w : World) (hG : Glob w) (h : path_From.f k a0 = some (r1, r2, r3, r4, r5, r6, r7, r8, r9)) :
  Calls Tryz.prog 18 #[.string a0] w fun e w' => ∃ v2_ : Value, e = .returned (.tuple #[.agg #[.bool r1, .bool r2, v2_, .string r4, .string r5], .agg #[.bool r6, .bool r7, .int .i64 r8], .int .i64 r9]) ∧ Kd.R Kd.string 9 w' w.heap.size (fun _ => True) v2_ r3 ∧ Below w.heap.size w w' := by
 have hu26 := Tryz.underlying26
 have hu46 := Tryz.underlying46
 have HB := Aside0.mk (Below.refl w.heap.size w)
 have HG := Aside0.mk hG
 clear hG
 have H : ((path_Parse.f k a0).bind fun bt261 => (if bt261.2.2.2.2.2.2 = 0 then (path_From.j0 k bt261.2.2.2.2.2.1 bt261.2.2.2.2.2.2 bt261.2.1 bt261.1 bt261.2.1 bt261.2.2.1 bt261.2.2.2.1 bt261.2.2.2.2.1) else (path_From.j0 k bt261.2.2.2.2.2.1 bt261.2.2.2.2.2.2 false bt261.1 bt261.2.1 bt261.2.2.1 bt261.2.2.2.1 bt261.2.2.2.2.1))) = some (r1, r2, r3, r4, r5, r6, r7, r8, r9) := h
 clear h
 obtain ⟨⟨t261, t262, t263, t266, t267, t268, t269⟩, A20, H⟩ := Option.bind_eq_some_iff.mp H
 replace H : (if t269 = 0 then (path_From.j0 k t268 t269 t262 t261 t262 t263 t266 t267) else (path_From.j0 k t268 t269 false t261 t262 t263 t266 t267)) = some (r1, r2, r3, r4, r5, r6, r7, r8, r9) := H
 have A2 := Aside0.mk A20
 clear A20
 have HC3 := Aside0.mk H
 clear H
 go_enter Tryz.func18, Tryz.ntmps18
 go_upto_region 2 with (first | ((with_reducible refine gate_dst (N := 2) rfl ?_); refine box_event ?hg (N := 2) ?hd (cs := #[.bool false, .bool false, .slice none 0 0, .string (⟨#[]⟩ : ByteArray), .string (⟨#[]⟩ : ByteArray)]) (t := 26) ?hr ?_; (case hd => rfl); (case hg => rfl); (case hr => first | (go_simp; done) | (go_simp; rfl)); intro gb259 hg w4 hbox hb; have BK259 := Aside0.mk (hbox); have GW259 := Aside0.mk (gz hg : w.heap.size ≤ gb259); have GE259 := Aside0.mk (gz hg : w.heap.size ≤ gb259); replace HB := Aside0.mk (below_step bl hb); clear hb hbox hg) | ((with_reducible refine gate_dst (N := 3) rfl ?_); refine box_event ?hg (N := 3) ?hd (cs := #[.bool false, .bool false, .int .i64 0]) (t := 46) ?hr ?_; (case hd => rfl); (case hg => rfl); (case hr => first | (go_simp; done) | (go_simp; rfl)); intro gb260 hg w5 hbox hb; have BK260 := Aside0.mk (hbox); have GW260 := Aside0.mk (gz hg : w.heap.size ≤ gb260); have GE260 := Aside0.mk (gz hg : w.heap.size ≤ gb260); replace HB := Aside0.mk (below_step bl hb); have NB259_260 := Aside0.mk (nl hg BK259.out : gb259 ≠ gb260); have NB260_259 := Aside0.mk (ng hg BK259.out : gb260 ≠ gb259); replace BK259 := Aside0.mk (kb BK259.out hb); clear hb hbox hg) | ((with_reducible refine gate_callee (f := 13) rfl ?_); refine goesL_ (some 11) rfl rfl Tryz.func13 kf rfl #[.string a0] rfl ml ?_; (with_reducible refine (path_Parse.calls k a0 t261 t262 t263 t266 t267 t268 t269 _ ?side1 A2.out).mono ?_); (case side1 => exact Glob.below HG.out bl); rintro e w6 ⟨v264, rfl, ho0, hb⟩; refine ⟨_, rfl, ?_⟩; have HO265 := Aside0.mk (Kd.R_lower ho0 (below_size bl)); replace BK259 := Aside0.mk (kb BK259.out hb); replace BK260 := Aside0.mk (kb BK260.out hb); replace HB := Aside0.mk (below_step bl hb); (try clear hb); (try clear hb2); (try clear hk); (try clear hi); (try clear ho0)) | ((with_reducible refine gate_dst (N := 5) rfl ?_); refine box_event ?hg (N := 5) ?hd (cs := #[.bool false, .bool false, .slice none 0 0, .string (⟨#[]⟩ : ByteArray), .string (⟨#[]⟩ : ByteArray)]) (t := 26) ?hr ?_; (case hd => rfl); (case hg => rfl); (case hr => first | (go_simp; done) | (go_simp; rfl)); intro gb270 hg w7 hbox hb; replace HO265 := Aside0.mk (Kd.R_below (kr HO265.out) hb); have BK270 := Aside0.mk (hbox); have GW270 := Aside0.mk (gz hg : w.heap.size ≤ gb270); have GE270 := Aside0.mk (gz hg : w.heap.size ≤ gb270); replace HB := Aside0.mk (below_step bl hb); have NB259_270 := Aside0.mk (nl hg BK259.out : gb259 ≠ gb270); have NB270_259 := Aside0.mk (ng hg BK259.out : gb270 ≠ gb259); replace BK259 := Aside0.mk (kb BK259.out hb); have NB260_270 := Aside0.mk (nl hg BK260.out : gb260 ≠ gb270); have NB270_260 := Aside0.mk (ng hg BK260.out : gb270 ≠ gb260); replace BK260 := Aside0.mk (kb BK260.out hb); clear hb hbox hg; have hnb8 := NB270_259.out; have hnc8 := NB259_270.out; have hnb9 := NB270_260.out; have hnc9 := NB260_270.out; have hcz10_0 := cz BK270.out 0 (.bool false); have hcz10_1 := cz BK270.out 1 (.bool false); have hcz10_2 := cz BK270.out 2 (.slice none 0 0); have hcz10_3 := cz BK270.out 3 (.string (⟨#[]⟩ : ByteArray)); have hcz10_4 := cz BK270.out 4 (.string (⟨#[]⟩ : ByteArray)); have hfz10_0 := blk_frozen BK270.out 0; have hfz10_1 := blk_frozen BK270.out 1; have hfz10_2 := blk_frozen BK270.out 2; have hfz10_3 := blk_frozen BK270.out 3; have hfz10_4 := blk_frozen BK270.out 4; obtain ⟨Ao11, co11, eo11⟩ := Kd.R_slice HO265.out; subst eo11))
 (try simp only [Act.put, sA, sB, sC])
 go_cut [20] (fun v20 wc => ∃ (kq : Nat) (x20_2 : Bool), v20 = .bool x20_2 ∧ Aside0 (path_From.j0 kq t268 t269 x20_2 t261 t262 t263 t266 t267 = some (r1, r2, r3, r4, r5, r6, r7, r8, r9)) ∧ Aside0 (kq ≤ k) ∧ Aside0 (Kd.R Kd.string 9 wc w.heap.size (fun _ => True) (.slice Ao11 t263.length co11) t263) ∧ Aside0 (wc.heap[gb259]? = some (.cells #[.bool false, .bool false, (.slice none 0 0), .string (⟨#[]⟩ : ByteArray), .string (⟨#[]⟩ : ByteArray)] 26 (0, 0))) ∧ Aside0 (wc.heap[gb260]? = some (.cells #[.bool false, .bool false, .int .i64 0] 46 (0, 0))) ∧ Aside0 (wc.heap[gb270]? = some (.cells #[.bool t261, .bool t262, (.slice Ao11 t263.length co11), .string t266, .string t267] 26 (0, 0))) ∧ Aside0 (Below w.heap.size w wc))
 case first =>
  have H := HC3.out
  clear HC3
  by_cases c12 : t269 = 0
  ·rw [if_pos c12] at H
   have c12b0 : (t269 == 0) = true := beq_iff_eq.mpr c12
   have c12b1 : (t269 != 0) = false := bne_eq_false_iff_eq.mpr c12
   clear c12
   (first | rw [c12b0] | (simp only [i64_w, i32_w]; rw [c12b0]) | skip)
   have H' := Aside0.mk H
   clear H
   have hnb13 := NB270_259.out
   have hnc13 := NB259_270.out
   have hnb14 := NB270_260.out
   have hnc14 := NB260_270.out
   have hcz15_0 := cz BK270.out 0 (.bool false)
   have hcz15_1 := cz BK270.out 1 (.bool false)
   have hcz15_2 := cz BK270.out 2 (.slice none 0 0)
   have hcz15_3 := cz BK270.out 3 (.string (⟨#[]⟩ : ByteArray))
   have hcz15_4 := cz BK270.out 4 (.string (⟨#[]⟩ : ByteArray))
   have hfz15_0 := blk_frozen BK270.out 0
   have hfz15_1 := blk_frozen BK270.out 1
   have hfz15_2 := blk_frozen BK270.out 2
   have hfz15_3 := blk_frozen BK270.out 3
   have hfz15_4 := blk_frozen BK270.out 4
   go_wp2
   go_meet
   case rel => exact ⟨_, (t262), rs, H', ⟨by first | omega | exact Nat.le_refl _⟩, ⟨by (with_reducible repeat (first | apply Kd.R_alloc | apply Kd.R_drewN | apply Kd.R_drew)); exact Kd.R_mono (Kd.R_far (p := ⟨gb270, 4, none⟩) (Kd.R_far (p := ⟨gb270, 3, none⟩) (Kd.R_far (p := ⟨gb270, 2, none⟩) (Kd.R_far (p := ⟨gb270, 1, none⟩) (Kd.R_far (p := ⟨gb270, 0, none⟩) (Kd.R_types HO265.out BK270.out (by decide)) (fun _ hk => hk.2) (.bool t261)) (fun _ hk => hk.2) (.bool t262)) (fun _ hk => hk.2) (.slice Ao11 t263.length co11)) (fun _ hk => hk.2) (.string t266)) (fun _ hk => hk.2) (.string t267)) (fun _ hk => trivial)⟩, ⟨bk BK259.out⟩, ⟨bk BK260.out⟩, ⟨by (with_reducible repeat (first | refine blk_drewN ?_ _ | refine blk_drew ?_ | refine blk_alloc ?_ _)); refine blk_put (cs := #[.bool t261, .bool t262, .slice Ao11 t263.length co11, .string t266, .string (⟨#[]⟩ : ByteArray)]) ?_ 4 _ rfl; (with_reducible repeat (first | refine blk_drewN ?_ _ | refine blk_drew ?_ | refine blk_alloc ?_ _)); refine blk_put (cs := #[.bool t261, .bool t262, .slice Ao11 t263.length co11, .string (⟨#[]⟩ : ByteArray), .string (⟨#[]⟩ : ByteArray)]) ?_ 3 _ rfl; (with_reducible repeat (first | refine blk_drewN ?_ _ | refine blk_drew ?_ | refine blk_alloc ?_ _)); refine blk_put (cs := #[.bool t261, .bool t262, .slice none 0 0, .string (⟨#[]⟩ : ByteArray), .string (⟨#[]⟩ : ByteArray)]) ?_ 2 _ rfl; (with_reducible repeat (first | refine blk_drewN ?_ _ | refine blk_drew ?_ | refine blk_alloc ?_ _)); refine blk_put (cs := #[.bool t261, .bool false, .slice none 0 0, .string (⟨#[]⟩ : ByteArray), .string (⟨#[]⟩ : ByteArray)]) ?_ 1 _ rfl; (with_reducible repeat (first | refine blk_drewN ?_ _ | refine blk_drew ?_ | refine blk_alloc ?_ _)); refine blk_put (cs := #[.bool false, .bool false, .slice none 0 0, .string (⟨#[]⟩ : ByteArray), .string (⟨#[]⟩ : ByteArray)]) ?_ 0 _ rfl; (with_reducible repeat (first | refine blk_drewN ?_ _ | refine blk_drew ?_ | refine blk_alloc ?_ _)); exact BK270.out⟩, ⟨bl⟩⟩
  ·rw [if_neg c12] at H
   have c12b0 : (t269 == 0) = false := beq_eq_false_iff_ne.mpr c12
   have c12b1 : (t269 != 0) = true := bne_iff_ne.mpr c12
   (first | rw [c12b0] | (simp only [i64_w, i32_w]; rw [c12b0]) | skip)
   have H' := Aside0.mk H
   clear H
   go_wp2
   go_meet
   case rel => exact ⟨_, (false), rs, H', ⟨by first | omega | exact Nat.le_refl _⟩, ⟨by (with_reducible repeat (first | apply Kd.R_alloc | apply Kd.R_drewN | apply Kd.R_drew)); exact Kd.R_mono (Kd.R_far (p := ⟨gb270, 4, none⟩) (Kd.R_far (p := ⟨gb270, 3, none⟩) (Kd.R_far (p := ⟨gb270, 2, none⟩) (Kd.R_far (p := ⟨gb270, 1, none⟩) (Kd.R_far (p := ⟨gb270, 0, none⟩) (Kd.R_types HO265.out BK270.out (by decide)) (fun _ hk => hk.2) (.bool t261)) (fun _ hk => hk.2) (.bool t262)) (fun _ hk => hk.2) (.slice Ao11 t263.length co11)) (fun _ hk => hk.2) (.string t266)) (fun _ hk => hk.2) (.string t267)) (fun _ hk => trivial)⟩, ⟨bk BK259.out⟩, ⟨bk BK260.out⟩, ⟨by (with_reducible repeat (first | refine blk_drewN ?_ _ | refine blk_drew ?_ | refine blk_alloc ?_ _)); refine blk_put (cs := #[.bool t261, .bool t262, .slice Ao11 t263.length co11, .string t266, .string (⟨#[]⟩ : ByteArray)]) ?_ 4 _ rfl; (with_reducible repeat (first | refine blk_drewN ?_ _ | refine blk_drew ?_ | refine blk_alloc ?_ _)); refine blk_put (cs := #[.bool t261, .bool t262, .slice Ao11 t263.length co11, .string (⟨#[]⟩ : ByteArray), .string (⟨#[]⟩ : ByteArray)]) ?_ 3 _ rfl; (with_reducible repeat (first | refine blk_drewN ?_ _ | refine blk_drew ?_ | refine blk_alloc ?_ _)); refine blk_put (cs := #[.bool t261, .bool t262, .slice none 0 0, .string (⟨#[]⟩ : ByteArray), .string (⟨#[]⟩ : ByteArray)]) ?_ 2 _ rfl; (with_reducible repeat (first | refine blk_drewN ?_ _ | refine blk_drew ?_ | refine blk_alloc ?_ _)); refine blk_put (cs := #[.bool t261, .bool false, .slice none 0 0, .string (⟨#[]⟩ : ByteArray), .string (⟨#[]⟩ : ByteArray)]) ?_ 1 _ rfl; (with_reducible repeat (first | refine blk_drewN ?_ _ | refine blk_drew ?_ | refine blk_alloc ?_ _)); refine blk_put (cs := #[.bool false, .bool false, .slice none 0 0, .string (⟨#[]⟩ : ByteArray), .string (⟨#[]⟩ : ByteArray)]) ?_ 0 _ rfl; (with_reducible repeat (first | refine blk_drewN ?_ _ | refine blk_drew ?_ | refine blk_alloc ?_ _)); exact BK270.out⟩, ⟨bl⟩⟩
 case rest =>
  clear HC3
  try clear c1
  try clear p2
  try clear c8
  try clear c9
  try clear c12
  try clear c12b0
  try clear c12b1
  try clear c13
  try clear c14
  try clear hcz10_0
  try clear hcz10_1
  try clear hcz10_2
  try clear hcz10_3
  try clear hcz10_4
  try clear hcz15_0
  try clear hcz15_1
  try clear hcz15_2
  try clear hcz15_3
  try clear hcz15_4
  try clear hfz10_0
  try clear hfz10_1
  try clear hfz10_2
  try clear hfz10_3
  try clear hfz10_4
  try clear hfz15_0
  try clear hfz15_1
  try clear hfz15_2
  try clear hfz15_3
  try clear hfz15_4
  obtain ⟨kq, x20_2, rfl, HA, HJ2, HO_271002, BK259, BK260, BK270, HB⟩ := hcut
  cases kq with
  | zero => exact absurd HA.out (by simp [path_From.j0])
  | succ kj2 =>
   have H := HA.out
   clear HA
   simp only [path_From.j0] at H
   have HC16 := Aside0.mk H
   clear H
   go_upto_if 20 with (fail)
   go_cut [7] (fun v7 wc => ∃ (kq : Nat) (x7_15 : Int), v7 = .int .i64 x7_15 ∧ Aside0 (path_From.j1 kq t268 x7_15 t261 t262 t263 t266 t267 = some (r1, r2, r3, r4, r5, r6, r7, r8, r9)) ∧ Aside0 (kq ≤ kj2) ∧ Aside0 (Kd.R Kd.string 9 wc w.heap.size (fun _ => True) (.slice Ao11 t263.length co11) t263) ∧ Aside0 (wc.heap[gb259]? = some (.cells #[.bool false, .bool false, (.slice none 0 0), .string (⟨#[]⟩ : ByteArray), .string (⟨#[]⟩ : ByteArray)] 26 (0, 0))) ∧ Aside0 (wc.heap[gb260]? = some (.cells #[.bool false, .bool false, .int .i64 0] 46 (0, 0))) ∧ Aside0 (wc.heap[gb270]? = some (.cells #[.bool t261, .bool t262, (.slice Ao11 t263.length co11), .string t266, .string t267] 26 (0, 0))) ∧ Aside0 (Below w.heap.size w wc))
   case first =>
    have H := HC16.out
    clear HC16
    by_cases c17 : x20_2 = true
    ·subst c17
     replace H : (path_From.j1 kj2 t268 5 t261 t262 t263 t266 t267) = some (r1, r2, r3, r4, r5, r6, r7, r8, r9) := by rw [if_pos rfl] at H; exact H
     have H' := Aside0.mk H
     clear H
     go_wp2
     go_meet
     case rel => exact ⟨_, (5), rs, H', ⟨by have := HJ2.out; first | omega | exact Nat.le_refl _⟩, ⟨kr HO_271002.out⟩, ⟨bk BK259.out⟩, ⟨bk BK260.out⟩, ⟨bk BK270.out⟩, ⟨bl⟩⟩
    ·replace c17 := Bool.eq_false_iff.mpr c17
     subst c17
     replace H : (path_From.j1 kj2 t268 t269 t261 t262 t263 t266 t267) = some (r1, r2, r3, r4, r5, r6, r7, r8, r9) := by rw [if_neg (show ¬ (false = true) by decide)] at H; exact H
     have H' := Aside0.mk H
     clear H
     go_wp2
     go_meet
     case rel => exact ⟨_, (t269), rs, H', ⟨by have := HJ2.out; first | omega | exact Nat.le_refl _⟩, ⟨kr HO_271002.out⟩, ⟨bk BK259.out⟩, ⟨bk BK260.out⟩, ⟨bk BK270.out⟩, ⟨bl⟩⟩
   case rest =>
    clear HC16
    try clear c1
    try clear p2
    try clear c8
    try clear c9
    try clear c12
    try clear c12b0
    try clear c12b1
    try clear c13
    try clear c14
    try clear c17
    try clear hcz10_0
    try clear hcz10_1
    try clear hcz10_2
    try clear hcz10_3
    try clear hcz10_4
    try clear hcz15_0
    try clear hcz15_1
    try clear hcz15_2
    try clear hcz15_3
    try clear hcz15_4
    try clear hfz10_0
    try clear hfz10_1
    try clear hfz10_2
    try clear hfz10_3
    try clear hfz10_4
    try clear hfz15_0
    try clear hfz15_1
    try clear hfz15_2
    try clear hfz15_3
    try clear hfz15_4
    try clear p2
    obtain ⟨kq, x7_15, rfl, HA, HJ15, HO_271002, BK259, BK260, BK270, HB⟩ := hcut
    cases kq with
    | zero => exact absurd HA.out (by simp [path_From.j1])
    | succ kj15 =>
     have H := HA.out
     clear HA
     simp only [path_From.j1] at H
     by_cases c18 : x7_15 = 0
     ·rw [if_pos c18] at H
      have c18b0 : (x7_15 == 0) = true := beq_iff_eq.mpr c18
      have c18b1 : (x7_15 != 0) = false := bne_eq_false_iff_eq.mpr c18
      clear c18
      obtain ⟨⟨t271, t272, t273, t274⟩, A190, H⟩ := Option.bind_eq_some_iff.mp H
      replace H : (if t274 = 0 then (some (t261, t262, t263, t266, t267, t271, t272, t273, 0)) else (some (false, false, ([] : List ByteArray), (⟨#[]⟩ : ByteArray), (⟨#[]⟩ : ByteArray), false, false, 0, t274))) = some (r1, r2, r3, r4, r5, r6, r7, r8, r9) := H
      have A19 := Aside0.mk A190
      clear A190
      by_cases c20 : t274 = 0
      ·rw [if_pos c20] at H
       have c20b0 : (t274 == 0) = true := beq_iff_eq.mpr c20
       have c20b1 : (t274 != 0) = false := bne_eq_false_iff_eq.mpr c20
       clear c20
       simp only [Option.some.injEq, Prod.mk.injEq] at H
       obtain ⟨rfl, rfl, rfl, rfl, rfl, rfl, rfl, rfl, rfl⟩ := H
       try go_wp2_with (first | ((with_reducible refine gate_callee (f := 17) rfl ?_); refine goesL_ (some 28) rfl rfl Tryz.func17 kf rfl #[.string t268] rfl ml ?_; (with_reducible refine (path_ParseParams.calls kj15 t268 t271 t272 t273 t274 _ ?side1 A19.out).mono ?_); (case side1 => exact Glob.below HG.out bl); rintro e w21 ⟨rfl, hb⟩; refine ⟨_, rfl, ?_⟩; replace HO_271002 := Aside0.mk (Kd.R_below (kr HO_271002.out) hb); replace BK259 := Aside0.mk (kb BK259.out hb); replace BK260 := Aside0.mk (kb BK260.out hb); replace BK270 := Aside0.mk (kb BK270.out hb); replace HB := Aside0.mk (below_step bl hb); (try clear hb); (try clear hb2); (try clear hk); (try clear hi)) | ((with_reducible refine gate_dst (N := 8) rfl ?_); refine box_event ?hg (N := 8) ?hd (cs := #[.bool false, .bool false, .int .i64 0]) (t := 46) ?hr ?_; (case hd => rfl); (case hg => rfl); (case hr => first | (go_simp; done) | (go_simp; rfl)); intro gb275 hg w22 hbox hb; replace HO_271002 := Aside0.mk (Kd.R_below (kr HO_271002.out) hb); have BK275 := Aside0.mk (hbox); have GW275 := Aside0.mk (gz hg : w.heap.size ≤ gb275); have GE275 := Aside0.mk (gz hg : w.heap.size ≤ gb275); replace HB := Aside0.mk (below_step bl hb); have NB259_275 := Aside0.mk (nl hg BK259.out : gb259 ≠ gb275); have NB275_259 := Aside0.mk (ng hg BK259.out : gb275 ≠ gb259); replace BK259 := Aside0.mk (kb BK259.out hb); have NB260_275 := Aside0.mk (nl hg BK260.out : gb260 ≠ gb275); have NB275_260 := Aside0.mk (ng hg BK260.out : gb275 ≠ gb260); replace BK260 := Aside0.mk (kb BK260.out hb); have NB270_275 := Aside0.mk (nl hg BK270.out : gb270 ≠ gb275); have NB275_270 := Aside0.mk (ng hg BK270.out : gb275 ≠ gb270); replace BK270 := Aside0.mk (kb BK270.out hb); clear hb hbox hg; have hnb23 := NB275_259.out; have hnc23 := NB259_275.out; have hnb24 := NB275_260.out; have hnc24 := NB260_275.out; have hnb25 := NB275_270.out; have hnc25 := NB270_275.out; have hcz26_0 := cz BK275.out 0 (.bool false); have hcz26_1 := cz BK275.out 1 (.bool false); have hcz26_2 := cz BK275.out 2 (.int .i64 0); have hfz26_0 := blk_frozen BK275.out 0; have hfz26_1 := blk_frozen BK275.out 1; have hfz26_2 := blk_frozen BK275.out 2))
       have n0_ : Aside0 (Kd.R Kd.string 9 (((w22.setCell ⟨gb275, 0, none⟩ (.bool t271)).setCell ⟨gb275, 1, none⟩ (.bool t272)).setCell ⟨gb275, 2, none⟩ (.int .i64 t273)) w.heap.size (fun _ => True) (.slice Ao11 t263.length co11) t263) := ⟨by (with_reducible repeat (first | apply Kd.R_alloc | apply Kd.R_drewN | apply Kd.R_drew)); exact Kd.R_mono (Kd.R_far (p := ⟨gb275, 2, none⟩) (Kd.R_far (p := ⟨gb275, 1, none⟩) (Kd.R_far (p := ⟨gb275, 0, none⟩) (Kd.R_types HO_271002.out BK275.out (by decide)) (fun _ hk => hk.2) (.bool t271)) (fun _ hk => hk.2) (.bool t272)) (fun _ hk => hk.2) (.int .i64 t273)) (fun _ hk => trivial)⟩
       have n1_ : Aside0 ((((w22.setCell ⟨gb275, 0, none⟩ (.bool t271)).setCell ⟨gb275, 1, none⟩ (.bool t272)).setCell ⟨gb275, 2, none⟩ (.int .i64 t273)).heap[gb259]? = some (.cells #[.bool false, .bool false, .slice none 0 0, .string (⟨#[]⟩ : ByteArray), .string (⟨#[]⟩ : ByteArray)] 26 (0, 0))) := ⟨bk BK259.out⟩
       have n2_ : Aside0 ((((w22.setCell ⟨gb275, 0, none⟩ (.bool t271)).setCell ⟨gb275, 1, none⟩ (.bool t272)).setCell ⟨gb275, 2, none⟩ (.int .i64 t273)).heap[gb260]? = some (.cells #[.bool false, .bool false, .int .i64 0] 46 (0, 0))) := ⟨bk BK260.out⟩
       have n3_ : Aside0 ((((w22.setCell ⟨gb275, 0, none⟩ (.bool t271)).setCell ⟨gb275, 1, none⟩ (.bool t272)).setCell ⟨gb275, 2, none⟩ (.int .i64 t273)).heap[gb270]? = some (.cells #[.bool t261, .bool t262, .slice Ao11 t263.length co11, .string t266, .string t267] 26 (0, 0))) := ⟨bk BK270.out⟩
       have n4_ : Aside0 ((((w22.setCell ⟨gb275, 0, none⟩ (.bool t271)).setCell ⟨gb275, 1, none⟩ (.bool t272)).setCell ⟨gb275, 2, none⟩ (.int .i64 t273)).heap[gb275]? = some (.cells #[.bool t271, .bool t272, .int .i64 t273] 46 (0, 0))) := ⟨by (with_reducible repeat (first | refine blk_drewN ?_ _ | refine blk_drew ?_ | refine blk_alloc ?_ _)); refine blk_put (cs := #[.bool t271, .bool t272, .int .i64 0]) ?_ 2 _ rfl; (with_reducible repeat (first | refine blk_drewN ?_ _ | refine blk_drew ?_ | refine blk_alloc ?_ _)); refine blk_put (cs := #[.bool t271, .bool false, .int .i64 0]) ?_ 1 _ rfl; (with_reducible repeat (first | refine blk_drewN ?_ _ | refine blk_drew ?_ | refine blk_alloc ?_ _)); refine blk_put (cs := #[.bool false, .bool false, .int .i64 0]) ?_ 0 _ rfl; (with_reducible repeat (first | refine blk_drewN ?_ _ | refine blk_drew ?_ | refine blk_alloc ?_ _)); exact BK275.out⟩
       have n5_ : Aside0 (Below w.heap.size w (((w22.setCell ⟨gb275, 0, none⟩ (.bool t271)).setCell ⟨gb275, 1, none⟩ (.bool t272)).setCell ⟨gb275, 2, none⟩ (.int .i64 t273))) := ⟨bl⟩
       (try clear HO_271002)
       (try clear BK259)
       (try clear BK260)
       (try clear BK270)
       (try clear BK275)
       (try clear HB)
       generalize (((w22.setCell ⟨gb275, 0, none⟩ (.bool t271)).setCell ⟨gb275, 1, none⟩ (.bool t272)).setCell ⟨gb275, 2, none⟩ (.int .i64 t273)) = w27 at n0_ n1_ n2_ n3_ n4_ n5_ ⊢
       have HO_271002 := n0_
       have BK259 := n1_
       have BK260 := n2_
       have BK270 := n3_
       have BK275 := n4_
       have HB := n5_
       clear n0_ n1_ n2_ n3_ n4_ n5_
       replace HO_271002 := Aside0.mk (Kd.R_drew HO_271002.out)
       replace BK259 := Aside0.mk (blk_drew BK259.out)
       replace BK260 := Aside0.mk (blk_drew BK260.out)
       replace BK270 := Aside0.mk (blk_drew BK270.out)
       replace BK275 := Aside0.mk (blk_drew BK275.out)
       replace HB := Aside0.mk (below_drew1 HB.out)
       refine start_ (n := 5) (S := fun w' => w'.cell? ⟨gb270, 0, none⟩ = some (.bool t261) ∧ w'.cell? ⟨gb270, 1, none⟩ = some (.bool t262) ∧ w'.cell? ⟨gb270, 2, none⟩ = some (.slice Ao11 t263.length co11) ∧ w'.cell? ⟨gb270, 3, none⟩ = some (.string t266) ∧ w'.cell? ⟨gb270, 4, none⟩ = some (.string t267) ∧ w'.cell? ⟨gb275, 0, none⟩ = some (.bool t271) ∧ w'.cell? ⟨gb275, 1, none⟩ = some (.bool t272) ∧ w'.cell? ⟨gb275, 2, none⟩ = some (.int .i64 t273)) (ds := []) #[false, false, false, false, false] kf rfl rfl ⟨(blk_cell BK270.out 0).trans rfl, (blk_cell BK270.out 1).trans rfl, (blk_cell BK270.out 2).trans rfl, (blk_cell BK270.out 3).trans rfl, (blk_cell BK270.out 4).trans rfl, (blk_cell BK275.out 0).trans rfl, (blk_cell BK275.out 1).trans rfl, (blk_cell BK275.out 2).trans rfl⟩ (fun hHeld => ?_)
       generalize w27.drew = w28 at HO_271002 BK259 BK260 BK270 BK275 HB hHeld ⊢
       refine take_ (i := 0) (N := some 36) (v := ?_) (a' := ?_) #[true, false, false, false, false] rfl rfl kf (fun _ _ _ h => h) (Or.inl ⟨by rfl, ?_⟩) hHeld ?_ ?_
       rotate_left
       ·rintro w' ⟨s0, s1, s2, s3, s4, s5, s6, s7⟩
        go_simp
        with_reducible rfl
       rotate_left
       ·simp only [Act.put, sA, sB, sC, i64_w, i32_w]
        rfl
       refine take_ (i := 1) (N := some 37) (v := ?_) (a' := ?_) #[true, true, false, false, false] rfl rfl kf (fun _ _ _ h => h) (Or.inl ⟨by rfl, ?_⟩) hHeld ?_ ?_
       rotate_left
       ·rintro w' ⟨s0, s1, s2, s3, s4, s5, s6, s7⟩
        go_simp
        with_reducible rfl
       rotate_left
       ·simp only [Act.put, sA, sB, sC, i64_w, i32_w]
        rfl
       refine one_ (i := 2) (N := none) #[true, true, true, false, false] rfl rfl kf (by decide) (fun K hK => ?_)
       have hs29 : w28.cell? ⟨gb259, 0, none⟩ = some (.bool false) := (blk_cell BK259.out 0).trans rfl
       have hfs29 := blk_frozen BK259.out 0
       have hns29_1 := NB260_259.out
       have hns29_2 := NB270_259.out
       have hns29_3 := NB275_259.out
       have hms29_1 := NB259_260.out
       have hms29_2 := NB259_270.out
       have hms29_3 := NB259_275.out
       have hs30 : w28.cell? ⟨gb259, 1, none⟩ = some (.bool false) := (blk_cell BK259.out 1).trans rfl
       have hfs30 := blk_frozen BK259.out 1
       have hns30_1 := NB260_259.out
       have hns30_2 := NB270_259.out
       have hns30_3 := NB275_259.out
       have hms30_1 := NB259_260.out
       have hms30_2 := NB259_270.out
       have hms30_3 := NB259_275.out
       have hs31 : w28.cell? ⟨gb259, 2, none⟩ = some (.slice none 0 0) := (blk_cell BK259.out 2).trans rfl
       have hfs31 := blk_frozen BK259.out 2
       have hns31_1 := NB260_259.out
       have hns31_2 := NB270_259.out
       have hns31_3 := NB275_259.out
       have hms31_1 := NB259_260.out
       have hms31_2 := NB259_270.out
       have hms31_3 := NB259_275.out
       have hs32 : w28.cell? ⟨gb259, 3, none⟩ = some (.string (⟨#[]⟩ : ByteArray)) := (blk_cell BK259.out 3).trans rfl
       have hfs32 := blk_frozen BK259.out 3
       have hns32_1 := NB260_259.out
       have hns32_2 := NB270_259.out
       have hns32_3 := NB275_259.out
       have hms32_1 := NB259_260.out
       have hms32_2 := NB259_270.out
       have hms32_3 := NB259_275.out
       have hs33 : w28.cell? ⟨gb259, 4, none⟩ = some (.string (⟨#[]⟩ : ByteArray)) := (blk_cell BK259.out 4).trans rfl
       have hfs33 := blk_frozen BK259.out 4
       have hns33_1 := NB260_259.out
       have hns33_2 := NB270_259.out
       have hns33_3 := NB275_259.out
       have hms33_1 := NB259_260.out
       have hms33_2 := NB259_270.out
       have hms33_3 := NB259_275.out
       refine skip_ (w1 := ?_) (by rfl) rfl ?_ ?_
       rotate_left
       ·go_simp
        rfl
       refine hK.out _ _ ⟨((cell_far (p := ⟨gb259, _, none⟩) NB270_259.out _).trans (((cell_far (p := ⟨gb259, _, none⟩) NB270_259.out _).trans (((cell_far (p := ⟨gb259, _, none⟩) NB270_259.out _).trans (((cell_far (p := ⟨gb259, _, none⟩) NB270_259.out _).trans (((cell_far (p := ⟨gb259, _, none⟩) NB270_259.out _).trans (hHeld.1)))))))))), ((cell_far (p := ⟨gb259, _, none⟩) NB270_259.out _).trans (((cell_far (p := ⟨gb259, _, none⟩) NB270_259.out _).trans (((cell_far (p := ⟨gb259, _, none⟩) NB270_259.out _).trans (((cell_far (p := ⟨gb259, _, none⟩) NB270_259.out _).trans (((cell_far (p := ⟨gb259, _, none⟩) NB270_259.out _).trans (hHeld.2.1)))))))))), ((cell_far (p := ⟨gb259, _, none⟩) NB270_259.out _).trans (((cell_far (p := ⟨gb259, _, none⟩) NB270_259.out _).trans (((cell_far (p := ⟨gb259, _, none⟩) NB270_259.out _).trans (((cell_far (p := ⟨gb259, _, none⟩) NB270_259.out _).trans (((cell_far (p := ⟨gb259, _, none⟩) NB270_259.out _).trans (hHeld.2.2.1)))))))))), ((cell_far (p := ⟨gb259, _, none⟩) NB270_259.out _).trans (((cell_far (p := ⟨gb259, _, none⟩) NB270_259.out _).trans (((cell_far (p := ⟨gb259, _, none⟩) NB270_259.out _).trans (((cell_far (p := ⟨gb259, _, none⟩) NB270_259.out _).trans (((cell_far (p := ⟨gb259, _, none⟩) NB270_259.out _).trans (hHeld.2.2.2.1)))))))))), ((cell_far (p := ⟨gb259, _, none⟩) NB270_259.out _).trans (((cell_far (p := ⟨gb259, _, none⟩) NB270_259.out _).trans (((cell_far (p := ⟨gb259, _, none⟩) NB270_259.out _).trans (((cell_far (p := ⟨gb259, _, none⟩) NB270_259.out _).trans (((cell_far (p := ⟨gb259, _, none⟩) NB270_259.out _).trans (hHeld.2.2.2.2.1)))))))))), ((cell_far (p := ⟨gb259, _, none⟩) NB275_259.out _).trans (((cell_far (p := ⟨gb259, _, none⟩) NB275_259.out _).trans (((cell_far (p := ⟨gb259, _, none⟩) NB275_259.out _).trans (((cell_far (p := ⟨gb259, _, none⟩) NB275_259.out _).trans (((cell_far (p := ⟨gb259, _, none⟩) NB275_259.out _).trans (hHeld.2.2.2.2.2.1)))))))))), ((cell_far (p := ⟨gb259, _, none⟩) NB275_259.out _).trans (((cell_far (p := ⟨gb259, _, none⟩) NB275_259.out _).trans (((cell_far (p := ⟨gb259, _, none⟩) NB275_259.out _).trans (((cell_far (p := ⟨gb259, _, none⟩) NB275_259.out _).trans (((cell_far (p := ⟨gb259, _, none⟩) NB275_259.out _).trans (hHeld.2.2.2.2.2.2.1)))))))))), ((cell_far (p := ⟨gb259, _, none⟩) NB275_259.out _).trans (((cell_far (p := ⟨gb259, _, none⟩) NB275_259.out _).trans (((cell_far (p := ⟨gb259, _, none⟩) NB275_259.out _).trans (((cell_far (p := ⟨gb259, _, none⟩) NB275_259.out _).trans (((cell_far (p := ⟨gb259, _, none⟩) NB275_259.out _).trans (hHeld.2.2.2.2.2.2.2))))))))))⟩ (fun hHeld => ?_)
       clear hK K
       refine one_ (i := 3) (N := none) #[true, true, true, true, false] rfl rfl kf (by decide) (fun K hK => ?_)
       have hs34 : w28.cell? ⟨gb260, 0, none⟩ = some (.bool false) := (blk_cell BK260.out 0).trans rfl
       have hfs34 := blk_frozen BK260.out 0
       have hns34_0 := NB259_260.out
       have hns34_2 := NB270_260.out
       have hns34_3 := NB275_260.out
       have hms34_0 := NB260_259.out
       have hms34_2 := NB260_270.out
       have hms34_3 := NB260_275.out
       have hs35 : w28.cell? ⟨gb260, 1, none⟩ = some (.bool false) := (blk_cell BK260.out 1).trans rfl
       have hfs35 := blk_frozen BK260.out 1
       have hns35_0 := NB259_260.out
       have hns35_2 := NB270_260.out
       have hns35_3 := NB275_260.out
       have hms35_0 := NB260_259.out
       have hms35_2 := NB260_270.out
       have hms35_3 := NB260_275.out
       have hs36 : w28.cell? ⟨gb260, 2, none⟩ = some (.int .i64 0) := (blk_cell BK260.out 2).trans rfl
       have hfs36 := blk_frozen BK260.out 2
       have hns36_0 := NB259_260.out
       have hns36_2 := NB270_260.out
       have hns36_3 := NB275_260.out
       have hms36_0 := NB260_259.out
       have hms36_2 := NB260_270.out
       have hms36_3 := NB260_275.out
       refine skip_ (w1 := ?_) (by rfl) rfl ?_ ?_
       rotate_left
       ·go_simp
        rfl
       refine hK.out _ _ ⟨((cell_far (p := ⟨gb260, _, none⟩) NB270_260.out _).trans (((cell_far (p := ⟨gb260, _, none⟩) NB270_260.out _).trans (((cell_far (p := ⟨gb260, _, none⟩) NB270_260.out _).trans (hHeld.1)))))), ((cell_far (p := ⟨gb260, _, none⟩) NB270_260.out _).trans (((cell_far (p := ⟨gb260, _, none⟩) NB270_260.out _).trans (((cell_far (p := ⟨gb260, _, none⟩) NB270_260.out _).trans (hHeld.2.1)))))), ((cell_far (p := ⟨gb260, _, none⟩) NB270_260.out _).trans (((cell_far (p := ⟨gb260, _, none⟩) NB270_260.out _).trans (((cell_far (p := ⟨gb260, _, none⟩) NB270_260.out _).trans (hHeld.2.2.1)))))), ((cell_far (p := ⟨gb260, _, none⟩) NB270_260.out _).trans (((cell_far (p := ⟨gb260, _, none⟩) NB270_260.out _).trans (((cell_far (p := ⟨gb260, _, none⟩) NB270_260.out _).trans (hHeld.2.2.2.1)))))), ((cell_far (p := ⟨gb260, _, none⟩) NB270_260.out _).trans (((cell_far (p := ⟨gb260, _, none⟩) NB270_260.out _).trans (((cell_far (p := ⟨gb260, _, none⟩) NB270_260.out _).trans (hHeld.2.2.2.2.1)))))), ((cell_far (p := ⟨gb260, _, none⟩) NB275_260.out _).trans (((cell_far (p := ⟨gb260, _, none⟩) NB275_260.out _).trans (((cell_far (p := ⟨gb260, _, none⟩) NB275_260.out _).trans (hHeld.2.2.2.2.2.1)))))), ((cell_far (p := ⟨gb260, _, none⟩) NB275_260.out _).trans (((cell_far (p := ⟨gb260, _, none⟩) NB275_260.out _).trans (((cell_far (p := ⟨gb260, _, none⟩) NB275_260.out _).trans (hHeld.2.2.2.2.2.2.1)))))), ((cell_far (p := ⟨gb260, _, none⟩) NB275_260.out _).trans (((cell_far (p := ⟨gb260, _, none⟩) NB275_260.out _).trans (((cell_far (p := ⟨gb260, _, none⟩) NB275_260.out _).trans (hHeld.2.2.2.2.2.2.2))))))⟩ (fun hHeld => ?_)
       clear hK K
       refine pure_ (i := 4) (N := some 4) (v := ?_) (a' := ?_) #[true, true, true, true, true] rfl rfl kf (fun _ _ _ h => h) (Or.inl ⟨by rfl, ?_⟩) ?_ ?_
       rotate_left
       ·intro w'
        go_simp
        with_reducible rfl
       rotate_left
       ·simp only [Act.put, sA, sB, sC, i64_w, i32_w]
        rfl
       refine done_ kf ?_
       try go_wp2
       refine bodyPost_ret (results_list (rs := [.cell 2 26, .cell 3 46, .tmp 4]) rfl (by simp) (.cell gb259 26 #[.bool t261, .bool t262, .slice Ao11 t263.length co11, .string t266, .string t267] (0, 0) _ rfl (by (with_reducible repeat (first | refine blk_drewN ?_ _ | refine blk_drew ?_ | refine blk_alloc ?_ _)); refine blk_far ?_ NB259_260.out _; (with_reducible repeat (first | refine blk_drewN ?_ _ | refine blk_drew ?_ | refine blk_alloc ?_ _)); refine blk_far ?_ NB259_260.out _; (with_reducible repeat (first | refine blk_drewN ?_ _ | refine blk_drew ?_ | refine blk_alloc ?_ _)); refine blk_far ?_ NB259_260.out _; (with_reducible repeat (first | refine blk_drewN ?_ _ | refine blk_drew ?_ | refine blk_alloc ?_ _)); refine blk_put (cs := #[.bool t261, .bool t262, .slice Ao11 t263.length co11, .string t266, .string (⟨#[]⟩ : ByteArray)]) ?_ 4 _ rfl; (with_reducible repeat (first | refine blk_drewN ?_ _ | refine blk_drew ?_ | refine blk_alloc ?_ _)); refine blk_put (cs := #[.bool t261, .bool t262, .slice Ao11 t263.length co11, .string (⟨#[]⟩ : ByteArray), .string (⟨#[]⟩ : ByteArray)]) ?_ 3 _ rfl; (with_reducible repeat (first | refine blk_drewN ?_ _ | refine blk_drew ?_ | refine blk_alloc ?_ _)); refine blk_put (cs := #[.bool t261, .bool t262, .slice none 0 0, .string (⟨#[]⟩ : ByteArray), .string (⟨#[]⟩ : ByteArray)]) ?_ 2 _ rfl; (with_reducible repeat (first | refine blk_drewN ?_ _ | refine blk_drew ?_ | refine blk_alloc ?_ _)); refine blk_put (cs := #[.bool t261, .bool false, .slice none 0 0, .string (⟨#[]⟩ : ByteArray), .string (⟨#[]⟩ : ByteArray)]) ?_ 1 _ rfl; (with_reducible repeat (first | refine blk_drewN ?_ _ | refine blk_drew ?_ | refine blk_alloc ?_ _)); refine blk_put (cs := #[.bool false, .bool false, .slice none 0 0, .string (⟨#[]⟩ : ByteArray), .string (⟨#[]⟩ : ByteArray)]) ?_ 0 _ rfl; (with_reducible repeat (first | refine blk_drewN ?_ _ | refine blk_drew ?_ | refine blk_alloc ?_ _)); exact BK259.out) Tryz.underlying26 rfl kf (.cell gb260 46 #[.bool t271, .bool t272, .int .i64 t273] (0, 0) _ rfl (by (with_reducible repeat (first | refine blk_drewN ?_ _ | refine blk_drew ?_ | refine blk_alloc ?_ _)); refine blk_put (cs := #[.bool t271, .bool t272, .int .i64 0]) ?_ 2 _ rfl; (with_reducible repeat (first | refine blk_drewN ?_ _ | refine blk_drew ?_ | refine blk_alloc ?_ _)); refine blk_put (cs := #[.bool t271, .bool false, .int .i64 0]) ?_ 1 _ rfl; (with_reducible repeat (first | refine blk_drewN ?_ _ | refine blk_drew ?_ | refine blk_alloc ?_ _)); refine blk_put (cs := #[.bool false, .bool false, .int .i64 0]) ?_ 0 _ rfl; (with_reducible repeat (first | refine blk_drewN ?_ _ | refine blk_drew ?_ | refine blk_alloc ?_ _)); refine blk_far ?_ NB260_259.out _; (with_reducible repeat (first | refine blk_drewN ?_ _ | refine blk_drew ?_ | refine blk_alloc ?_ _)); refine blk_far ?_ NB260_259.out _; (with_reducible repeat (first | refine blk_drewN ?_ _ | refine blk_drew ?_ | refine blk_alloc ?_ _)); refine blk_far ?_ NB260_259.out _; (with_reducible repeat (first | refine blk_drewN ?_ _ | refine blk_drew ?_ | refine blk_alloc ?_ _)); refine blk_far ?_ NB260_259.out _; (with_reducible repeat (first | refine blk_drewN ?_ _ | refine blk_drew ?_ | refine blk_alloc ?_ _)); refine blk_far ?_ NB260_259.out _; (with_reducible repeat (first | refine blk_drewN ?_ _ | refine blk_drew ?_ | refine blk_alloc ?_ _)); exact BK260.out) Tryz.underlying46 rfl kf (.tmp .nil)))) rfl ?_
       exact ⟨_, by first | rfl | (simp [errW_none, errW_some] <;> rfl) | (simp [*, errW_none, errW_some] <;> rfl), by (with_reducible repeat (first | apply Kd.R_alloc | apply Kd.R_drewN | apply Kd.R_drew)); exact Kd.R_mono (Kd.R_far (p := ⟨gb260, 2, none⟩) (Kd.R_far (p := ⟨gb260, 1, none⟩) (Kd.R_far (p := ⟨gb260, 0, none⟩) (Kd.R_far (p := ⟨gb259, 4, none⟩) (Kd.R_far (p := ⟨gb259, 3, none⟩) (Kd.R_far (p := ⟨gb259, 2, none⟩) (Kd.R_far (p := ⟨gb259, 1, none⟩) (Kd.R_far (p := ⟨gb259, 0, none⟩) (Kd.R_types (Kd.R_types HO_271002.out BK259.out (by decide)) BK260.out (by decide)) (fun _ hk => hk.1.2) (.bool t261)) (fun _ hk => hk.1.2) (.bool t262)) (fun _ hk => hk.1.2) (.slice Ao11 t263.length co11)) (fun _ hk => hk.1.2) (.string t266)) (fun _ hk => hk.1.2) (.string t267)) (fun _ hk => hk.2) (.bool t271)) (fun _ hk => hk.2) (.bool t272)) (fun _ hk => hk.2) (.int .i64 t273)) (fun _ hk => trivial), bl⟩
      ·rw [if_neg c20] at H
       have c20b0 : (t274 == 0) = false := beq_eq_false_iff_ne.mpr c20
       have c20b1 : (t274 != 0) = true := bne_iff_ne.mpr c20
       simp only [Option.some.injEq, Prod.mk.injEq] at H
       obtain ⟨rfl, rfl, rfl, rfl, rfl, rfl, rfl, rfl, rfl⟩ := H
       go_wp2_with (first | ((with_reducible refine gate_callee (f := 17) rfl ?_); refine goesL_ (some 28) rfl rfl Tryz.func17 kf rfl #[.string t268] rfl ml ?_; (with_reducible refine (path_ParseParams.calls kj15 t268 t271 t272 t273 t274 _ ?side1 A19.out).mono ?_); (case side1 => exact Glob.below HG.out bl); rintro e w37 ⟨rfl, hb⟩; refine ⟨_, rfl, ?_⟩; replace HO_271002 := Aside0.mk (Kd.R_below (kr HO_271002.out) hb); replace BK259 := Aside0.mk (kb BK259.out hb); replace BK260 := Aside0.mk (kb BK260.out hb); replace BK270 := Aside0.mk (kb BK270.out hb); replace HB := Aside0.mk (below_step bl hb); (try clear hb); (try clear hb2); (try clear hk); (try clear hi)) | ((with_reducible refine gate_dst (N := 8) rfl ?_); refine box_event ?hg (N := 8) ?hd (cs := #[.bool false, .bool false, .int .i64 0]) (t := 46) ?hr ?_; (case hd => rfl); (case hg => rfl); (case hr => first | (go_simp; done) | (go_simp; rfl)); intro gb275 hg w38 hbox hb; replace HO_271002 := Aside0.mk (Kd.R_below (kr HO_271002.out) hb); have BK275 := Aside0.mk (hbox); have GW275 := Aside0.mk (gz hg : w.heap.size ≤ gb275); have GE275 := Aside0.mk (gz hg : w.heap.size ≤ gb275); replace HB := Aside0.mk (below_step bl hb); have NB259_275 := Aside0.mk (nl hg BK259.out : gb259 ≠ gb275); have NB275_259 := Aside0.mk (ng hg BK259.out : gb275 ≠ gb259); replace BK259 := Aside0.mk (kb BK259.out hb); have NB260_275 := Aside0.mk (nl hg BK260.out : gb260 ≠ gb275); have NB275_260 := Aside0.mk (ng hg BK260.out : gb275 ≠ gb260); replace BK260 := Aside0.mk (kb BK260.out hb); have NB270_275 := Aside0.mk (nl hg BK270.out : gb270 ≠ gb275); have NB275_270 := Aside0.mk (ng hg BK270.out : gb275 ≠ gb270); replace BK270 := Aside0.mk (kb BK270.out hb); clear hb hbox hg; have hnb39 := NB275_259.out; have hnc39 := NB259_275.out; have hnb40 := NB275_260.out; have hnc40 := NB260_275.out; have hnb41 := NB275_270.out; have hnc41 := NB270_275.out; have hcz42_0 := cz BK275.out 0 (.bool false); have hcz42_1 := cz BK275.out 1 (.bool false); have hcz42_2 := cz BK275.out 2 (.int .i64 0); have hfz42_0 := blk_frozen BK275.out 0; have hfz42_1 := blk_frozen BK275.out 1; have hfz42_2 := blk_frozen BK275.out 2; have hnb43 := NB259_260.out; have hnc43 := NB260_259.out; have hnb44 := NB259_270.out; have hnc44 := NB270_259.out; have hcz45_0 := cz BK259.out 0 (.bool false); have hcz45_1 := cz BK259.out 1 (.bool false); have hcz45_2 := cz BK259.out 2 (.slice none 0 0); have hcz45_3 := cz BK259.out 3 (.string (⟨#[]⟩ : ByteArray)); have hcz45_4 := cz BK259.out 4 (.string (⟨#[]⟩ : ByteArray)); have hfz45_0 := blk_frozen BK259.out 0; have hfz45_1 := blk_frozen BK259.out 1; have hfz45_2 := blk_frozen BK259.out 2; have hfz45_3 := blk_frozen BK259.out 3; have hfz45_4 := blk_frozen BK259.out 4; have hnb46 := NB260_270.out; have hnc46 := NB270_260.out; have hcz47_0 := cz BK260.out 0 (.bool false); have hcz47_1 := cz BK260.out 1 (.bool false); have hcz47_2 := cz BK260.out 2 (.int .i64 0); have hfz47_0 := blk_frozen BK260.out 0; have hfz47_1 := blk_frozen BK260.out 1; have hfz47_2 := blk_frozen BK260.out 2))
       refine bodyPost_ret (results_list (rs := [.cell 2 26, .cell 3 46, .tmp 4]) rfl (by simp) (.cell gb259 26 #[.bool false, .bool false, .slice none 0 0, .string (⟨#[]⟩ : ByteArray), .string (⟨#[]⟩ : ByteArray)] (0, 0) _ rfl (by (with_reducible repeat (first | refine blk_drewN ?_ _ | refine blk_drew ?_ | refine blk_alloc ?_ _)); refine blk_far ?_ NB259_260.out _; (with_reducible repeat (first | refine blk_drewN ?_ _ | refine blk_drew ?_ | refine blk_alloc ?_ _)); refine blk_far ?_ NB259_260.out _; (with_reducible repeat (first | refine blk_drewN ?_ _ | refine blk_drew ?_ | refine blk_alloc ?_ _)); refine blk_far ?_ NB259_260.out _; (with_reducible repeat (first | refine blk_drewN ?_ _ | refine blk_drew ?_ | refine blk_alloc ?_ _)); refine blk_put (cs := #[.bool false, .bool false, .slice none 0 0, .string (⟨#[]⟩ : ByteArray), .string (⟨#[]⟩ : ByteArray)]) ?_ 4 _ rfl; (with_reducible repeat (first | refine blk_drewN ?_ _ | refine blk_drew ?_ | refine blk_alloc ?_ _)); refine blk_put (cs := #[.bool false, .bool false, .slice none 0 0, .string (⟨#[]⟩ : ByteArray), .string (⟨#[]⟩ : ByteArray)]) ?_ 3 _ rfl; (with_reducible repeat (first | refine blk_drewN ?_ _ | refine blk_drew ?_ | refine blk_alloc ?_ _)); refine blk_put (cs := #[.bool false, .bool false, .slice none 0 0, .string (⟨#[]⟩ : ByteArray), .string (⟨#[]⟩ : ByteArray)]) ?_ 2 _ rfl; (with_reducible repeat (first | refine blk_drewN ?_ _ | refine blk_drew ?_ | refine blk_alloc ?_ _)); refine blk_put (cs := #[.bool false, .bool false, .slice none 0 0, .string (⟨#[]⟩ : ByteArray), .string (⟨#[]⟩ : ByteArray)]) ?_ 1 _ rfl; (with_reducible repeat (first | refine blk_drewN ?_ _ | refine blk_drew ?_ | refine blk_alloc ?_ _)); refine blk_put (cs := #[.bool false, .bool false, .slice none 0 0, .string (⟨#[]⟩ : ByteArray), .string (⟨#[]⟩ : ByteArray)]) ?_ 0 _ rfl; (with_reducible repeat (first | refine blk_drewN ?_ _ | refine blk_drew ?_ | refine blk_alloc ?_ _)); refine blk_far ?_ NB259_275.out _; (with_reducible repeat (first | refine blk_drewN ?_ _ | refine blk_drew ?_ | refine blk_alloc ?_ _)); refine blk_far ?_ NB259_275.out _; (with_reducible repeat (first | refine blk_drewN ?_ _ | refine blk_drew ?_ | refine blk_alloc ?_ _)); refine blk_far ?_ NB259_275.out _; (with_reducible repeat (first | refine blk_drewN ?_ _ | refine blk_drew ?_ | refine blk_alloc ?_ _)); exact BK259.out) Tryz.underlying26 rfl kf (.cell gb260 46 #[.bool false, .bool false, .int .i64 0] (0, 0) _ rfl (by (with_reducible repeat (first | refine blk_drewN ?_ _ | refine blk_drew ?_ | refine blk_alloc ?_ _)); refine blk_put (cs := #[.bool false, .bool false, .int .i64 0]) ?_ 2 _ rfl; (with_reducible repeat (first | refine blk_drewN ?_ _ | refine blk_drew ?_ | refine blk_alloc ?_ _)); refine blk_put (cs := #[.bool false, .bool false, .int .i64 0]) ?_ 1 _ rfl; (with_reducible repeat (first | refine blk_drewN ?_ _ | refine blk_drew ?_ | refine blk_alloc ?_ _)); refine blk_put (cs := #[.bool false, .bool false, .int .i64 0]) ?_ 0 _ rfl; (with_reducible repeat (first | refine blk_drewN ?_ _ | refine blk_drew ?_ | refine blk_alloc ?_ _)); refine blk_far ?_ NB260_259.out _; (with_reducible repeat (first | refine blk_drewN ?_ _ | refine blk_drew ?_ | refine blk_alloc ?_ _)); refine blk_far ?_ NB260_259.out _; (with_reducible repeat (first | refine blk_drewN ?_ _ | refine blk_drew ?_ | refine blk_alloc ?_ _)); refine blk_far ?_ NB260_259.out _; (with_reducible repeat (first | refine blk_drewN ?_ _ | refine blk_drew ?_ | refine blk_alloc ?_ _)); refine blk_far ?_ NB260_259.out _; (with_reducible repeat (first | refine blk_drewN ?_ _ | refine blk_drew ?_ | refine blk_alloc ?_ _)); refine blk_far ?_ NB260_259.out _; (with_reducible repeat (first | refine blk_drewN ?_ _ | refine blk_drew ?_ | refine blk_alloc ?_ _)); refine blk_far ?_ NB260_275.out _; (with_reducible repeat (first | refine blk_drewN ?_ _ | refine blk_drew ?_ | refine blk_alloc ?_ _)); refine blk_far ?_ NB260_275.out _; (with_reducible repeat (first | refine blk_drewN ?_ _ | refine blk_drew ?_ | refine blk_alloc ?_ _)); refine blk_far ?_ NB260_275.out _; (with_reducible repeat (first | refine blk_drewN ?_ _ | refine blk_drew ?_ | refine blk_alloc ?_ _)); exact BK260.out) Tryz.underlying46 rfl kf (.tmp .nil)))) rfl ?_
       exact ⟨_, by first | rfl | (simp [errW_none, errW_some] <;> rfl) | (simp [*, errW_none, errW_some] <;> rfl), by first | exact Kd.R_nil _ _ _ _ _ | exact Kd.N_nil _ _ _ _ _ | exact Kd.V_nil _ _ _ _ _ | exact Kd.Q_nil _ _ _ _ _ | exact Kd.S_nil _ _ _ _ _, bl⟩
     ·rw [if_neg c18] at H
      have c18b0 : (x7_15 == 0) = false := beq_eq_false_iff_ne.mpr c18
      have c18b1 : (x7_15 != 0) = true := bne_iff_ne.mpr c18
      simp only [Option.some.injEq, Prod.mk.injEq] at H
      obtain ⟨rfl, rfl, rfl, rfl, rfl, rfl, rfl, rfl, rfl⟩ := H
      have hnb48 := NB259_260.out
      have hnc48 := NB260_259.out
      have hnb49 := NB259_270.out
      have hnc49 := NB270_259.out
      have hcz50_0 := cz BK259.out 0 (.bool false)
      have hcz50_1 := cz BK259.out 1 (.bool false)
      have hcz50_2 := cz BK259.out 2 (.slice none 0 0)
      have hcz50_3 := cz BK259.out 3 (.string (⟨#[]⟩ : ByteArray))
      have hcz50_4 := cz BK259.out 4 (.string (⟨#[]⟩ : ByteArray))
      have hfz50_0 := blk_frozen BK259.out 0
      have hfz50_1 := blk_frozen BK259.out 1
      have hfz50_2 := blk_frozen BK259.out 2
      have hfz50_3 := blk_frozen BK259.out 3
      have hfz50_4 := blk_frozen BK259.out 4
      have hnb51 := NB260_270.out
      have hnc51 := NB270_260.out
      have hcz52_0 := cz BK260.out 0 (.bool false)
      have hcz52_1 := cz BK260.out 1 (.bool false)
      have hcz52_2 := cz BK260.out 2 (.int .i64 0)
      have hfz52_0 := blk_frozen BK260.out 0
      have hfz52_1 := blk_frozen BK260.out 1
      have hfz52_2 := blk_frozen BK260.out 2
      go_wp2
      refine bodyPost_ret (results_list (rs := [.cell 2 26, .cell 3 46, .tmp 4]) rfl (by simp) (.cell gb259 26 #[.bool false, .bool false, .slice none 0 0, .string (⟨#[]⟩ : ByteArray), .string (⟨#[]⟩ : ByteArray)] (0, 0) _ rfl (by (with_reducible repeat (first | refine blk_drewN ?_ _ | refine blk_drew ?_ | refine blk_alloc ?_ _)); refine blk_far ?_ NB259_260.out _; (with_reducible repeat (first | refine blk_drewN ?_ _ | refine blk_drew ?_ | refine blk_alloc ?_ _)); refine blk_far ?_ NB259_260.out _; (with_reducible repeat (first | refine blk_drewN ?_ _ | refine blk_drew ?_ | refine blk_alloc ?_ _)); refine blk_far ?_ NB259_260.out _; (with_reducible repeat (first | refine blk_drewN ?_ _ | refine blk_drew ?_ | refine blk_alloc ?_ _)); refine blk_put (cs := #[.bool false, .bool false, .slice none 0 0, .string (⟨#[]⟩ : ByteArray), .string (⟨#[]⟩ : ByteArray)]) ?_ 4 _ rfl; (with_reducible repeat (first | refine blk_drewN ?_ _ | refine blk_drew ?_ | refine blk_alloc ?_ _)); refine blk_put (cs := #[.bool false, .bool false, .slice none 0 0, .string (⟨#[]⟩ : ByteArray), .string (⟨#[]⟩ : ByteArray)]) ?_ 3 _ rfl; (with_reducible repeat (first | refine blk_drewN ?_ _ | refine blk_drew ?_ | refine blk_alloc ?_ _)); refine blk_put (cs := #[.bool false, .bool false, .slice none 0 0, .string (⟨#[]⟩ : ByteArray), .string (⟨#[]⟩ : ByteArray)]) ?_ 2 _ rfl; (with_reducible repeat (first | refine blk_drewN ?_ _ | refine blk_drew ?_ | refine blk_alloc ?_ _)); refine blk_put (cs := #[.bool false, .bool false, .slice none 0 0, .string (⟨#[]⟩ : ByteArray), .string (⟨#[]⟩ : ByteArray)]) ?_ 1 _ rfl; (with_reducible repeat (first | refine blk_drewN ?_ _ | refine blk_drew ?_ | refine blk_alloc ?_ _)); refine blk_put (cs := #[.bool false, .bool false, .slice none 0 0, .string (⟨#[]⟩ : ByteArray), .string (⟨#[]⟩ : ByteArray)]) ?_ 0 _ rfl; (with_reducible repeat (first | refine blk_drewN ?_ _ | refine blk_drew ?_ | refine blk_alloc ?_ _)); exact BK259.out) Tryz.underlying26 rfl kf (.cell gb260 46 #[.bool false, .bool false, .int .i64 0] (0, 0) _ rfl (by (with_reducible repeat (first | refine blk_drewN ?_ _ | refine blk_drew ?_ | refine blk_alloc ?_ _)); refine blk_put (cs := #[.bool false, .bool false, .int .i64 0]) ?_ 2 _ rfl; (with_reducible repeat (first | refine blk_drewN ?_ _ | refine blk_drew ?_ | refine blk_alloc ?_ _)); refine blk_put (cs := #[.bool false, .bool false, .int .i64 0]) ?_ 1 _ rfl; (with_reducible repeat (first | refine blk_drewN ?_ _ | refine blk_drew ?_ | refine blk_alloc ?_ _)); refine blk_put (cs := #[.bool false, .bool false, .int .i64 0]) ?_ 0 _ rfl; (with_reducible repeat (first | refine blk_drewN ?_ _ | refine blk_drew ?_ | refine blk_alloc ?_ _)); refine blk_far ?_ NB260_259.out _; (with_reducible repeat (first | refine blk_drewN ?_ _ | refine blk_drew ?_ | refine blk_alloc ?_ _)); refine blk_far ?_ NB260_259.out _; (with_reducible repeat (first | refine blk_drewN ?_ _ | refine blk_drew ?_ | refine blk_alloc ?_ _)); refine blk_far ?_ NB260_259.out _; (with_reducible repeat (first | refine blk_drewN ?_ _ | refine blk_drew ?_ | refine blk_alloc ?_ _)); refine blk_far ?_ NB260_259.out _; (with_reducible repeat (first | refine blk_drewN ?_ _ | refine blk_drew ?_ | refine blk_alloc ?_ _)); refine blk_far ?_ NB260_259.out _; (with_reducible repeat (first | refine blk_drewN ?_ _ | refine blk_drew ?_ | refine blk_alloc ?_ _)); exact BK260.out) Tryz.underlying46 rfl kf (.tmp .nil)))) rfl ?_
      exact ⟨_, by first | rfl | (simp [errW_none, errW_some] <;> rfl) | (simp [*, errW_none, errW_some] <;> rfl), by first | exact Kd.R_nil _ _ _ _ _ | exact Kd.N_nil _ _ _ _ _ | exact Kd.V_nil _ _ _ _ _ | exact Kd.Q_nil _ _ _ _ _ | exact Kd.S_nil _ _ _ _ _, bl⟩

/-! ### path_To: function 19 -/
mutual
def path_To.j0 : Nat → ByteArray → Int → Bool → Bool → Bool → List ByteArray → ByteArray → ByteArray → Option (Bool × Bool × List ByteArray × ByteArray × ByteArray × Int)
 | 0, _, _, _, _, _, _, _, _ => none
 | k + 1, x5, x6, x18, x287000, x287001, x287002, x287003, x287004 => if x18 = true then (path_To.j1 k x5 5 x287000 x287001 x287002 x287003 x287004) else (path_To.j1 k x5 x6 x287000 x287001 x287002 x287003 x287004)
def path_To.j1 : Nat → ByteArray → Int → Bool → Bool → List ByteArray → ByteArray → ByteArray → Option (Bool × Bool × List ByteArray × ByteArray × ByteArray × Int)
 | 0, _, _, _, _, _, _, _ => none
 | k + 1, x5, x6, x287000, x287001, x287002, x287003, x287004 => if x6 = 0 then (path_To.j2 k x5 x6 (x5.toList != ([] : List UInt8)) x287000 x287001 x287002 x287003 x287004) else (path_To.j2 k x5 x6 false x287000 x287001 x287002 x287003 x287004)
def path_To.j2 : Nat → ByteArray → Int → Bool → Bool → Bool → List ByteArray → ByteArray → ByteArray → Option (Bool × Bool × List ByteArray × ByteArray × ByteArray × Int)
 | 0, _, _, _, _, _, _, _, _ => none
 | k + 1, x5, x6, x24, x287000, x287001, x287002, x287003, x287004 => if x24 = true then ((path_ParseParams.f k x5).bind fun bt287 => (if bt287.2.2.2 = 0 then (if 1 = 0 then (some (x287000, x287001, x287002, x287003, x287004, 0)) else (some (false, false, ([] : List ByteArray), (⟨#[]⟩ : ByteArray), (⟨#[]⟩ : ByteArray), 1))) else (some (false, false, ([] : List ByteArray), (⟨#[]⟩ : ByteArray), (⟨#[]⟩ : ByteArray), bt287.2.2.2)))) else (if x6 = 0 then (some (x287000, x287001, x287002, x287003, x287004, 0)) else (some (false, false, ([] : List ByteArray), (⟨#[]⟩ : ByteArray), (⟨#[]⟩ : ByteArray), x6)))
end
def path_To.f (k : Nat) (a0 : ByteArray) : Option (Bool × Bool × List ByteArray × ByteArray × ByteArray × Int) := (path_Parse.f k a0).bind fun bt277 => (if bt277.2.2.2.2.2.2 = 0 then (path_To.j0 k bt277.2.2.2.2.2.1 bt277.2.2.2.2.2.2 bt277.1 bt277.1 bt277.2.1 bt277.2.2.1 bt277.2.2.2.1 bt277.2.2.2.2.1) else (path_To.j0 k bt277.2.2.2.2.2.1 bt277.2.2.2.2.2.2 false bt277.1 bt277.2.1 bt277.2.2.1 bt277.2.2.2.1 bt277.2.2.2.2.1))
theorem path_To.mono_l : ∀ k, (∀ y0 y1 y2 y3 y4 y5 y6 y7, LeO (path_To.j0 k y0 y1 y2 y3 y4 y5 y6 y7) (path_To.j0 (k + 1) y0 y1 y2 y3 y4 y5 y6 y7)) ∧ (∀ y0 y1 y2 y3 y4 y5 y6, LeO (path_To.j1 k y0 y1 y2 y3 y4 y5 y6) (path_To.j1 (k + 1) y0 y1 y2 y3 y4 y5 y6)) ∧ (∀ y0 y1 y2 y3 y4 y5 y6 y7, LeO (path_To.j2 k y0 y1 y2 y3 y4 y5 y6 y7) (path_To.j2 (k + 1) y0 y1 y2 y3 y4 y5 y6 y7))
 | 0 => ⟨fun _ _ _ _ _ _ _ _ r h => by simp [path_To.j0] at h, fun _ _ _ _ _ _ _ r h => by simp [path_To.j1] at h, fun _ _ _ _ _ _ _ _ r h => by simp [path_To.j2] at h⟩
 | k + 1 => by
  obtain ⟨ih0, ih1, ih2⟩ := path_To.mono_l k
  refine ⟨?_, ?_, ?_⟩
  ·intro y0 y1 y2 y3 y4 y5 y6 y7
   unfold path_To.j0
   repeat' first
   | (with_reducible first | exact ih0 _ _ _ _ _ _ _ _ | exact ih1 _ _ _ _ _ _ _ | exact ih2 _ _ _ _ _ _ _ _ | exact path_Parse.mono _ _ | exact path_ParseParams.mono _ _ | exact LeO.refl _ | exact LeO.none _ | refine LeO.ite ?_ ?_ | refine LeO.bind ?_ (fun _ => ?_))
  ·intro y0 y1 y2 y3 y4 y5 y6
   unfold path_To.j1
   repeat' first
   | (with_reducible first | exact ih0 _ _ _ _ _ _ _ _ | exact ih1 _ _ _ _ _ _ _ | exact ih2 _ _ _ _ _ _ _ _ | exact path_Parse.mono _ _ | exact path_ParseParams.mono _ _ | exact LeO.refl _ | exact LeO.none _ | refine LeO.ite ?_ ?_ | refine LeO.bind ?_ (fun _ => ?_))
  ·intro y0 y1 y2 y3 y4 y5 y6 y7
   unfold path_To.j2
   repeat' first
   | (with_reducible first | exact ih0 _ _ _ _ _ _ _ _ | exact ih1 _ _ _ _ _ _ _ | exact ih2 _ _ _ _ _ _ _ _ | exact path_Parse.mono _ _ | exact path_ParseParams.mono _ _ | exact LeO.refl _ | exact LeO.none _ | refine LeO.ite ?_ ?_ | refine LeO.bind ?_ (fun _ => ?_))
theorem path_To.mono : ∀ a0 k, LeO (path_To.f k a0) (path_To.f (k + 1) a0) := by
 intro a0 k
 obtain ⟨ih0, ih1, ih2⟩ := path_To.mono_l k
 unfold path_To.f
 repeat' first
   | (with_reducible first | exact ih0 _ _ _ _ _ _ _ _ | exact ih1 _ _ _ _ _ _ _ | exact ih2 _ _ _ _ _ _ _ _ | exact path_Parse.mono _ _ | exact path_ParseParams.mono _ _ | exact LeO.refl _ | exact LeO.none _ | refine LeO.ite ?_ ?_ | refine LeO.bind ?_ (fun _ => ?_))
theorem path_To.calls (k : Nat) (a0 : ByteArray) (r1 : Bool) (r2 : Bool) (r3 : List ByteArray) (r4 : ByteArray) (r5 : ByteArray) (r6 : Int) (w : World) (hG : Glob w) (h : path_To.f k a0 = some (r1, r2, r3, r4, r5, r6)) :
  Calls Tryz.prog 19 #[.string a0] w fun e w' => ∃ v2_ : Value, e = .returned (.tuple #[.agg #[.bool r1, .bool r2, v2_, .string r4, .string r5], .int .i64 r6]) ∧ Kd.R Kd.string 9 w' w.heap.size (fun _ => True) v2_ r3 ∧ Below w.heap.size w w' := by
 have hu26 := Tryz.underlying26
 have HB := Aside0.mk (Below.refl w.heap.size w)
 have HG := Aside0.mk hG
 clear hG
 have H : ((path_Parse.f k a0).bind fun bt277 => (if bt277.2.2.2.2.2.2 = 0 then (path_To.j0 k bt277.2.2.2.2.2.1 bt277.2.2.2.2.2.2 bt277.1 bt277.1 bt277.2.1 bt277.2.2.1 bt277.2.2.2.1 bt277.2.2.2.2.1) else (path_To.j0 k bt277.2.2.2.2.2.1 bt277.2.2.2.2.2.2 false bt277.1 bt277.2.1 bt277.2.2.1 bt277.2.2.2.1 bt277.2.2.2.2.1))) = some (r1, r2, r3, r4, r5, r6) := h
 clear h
 obtain ⟨⟨t277, t278, t279, t282, t283, t284, t285⟩, A20, H⟩ := Option.bind_eq_some_iff.mp H
 replace H : (if t285 = 0 then (path_To.j0 k t284 t285 t277 t277 t278 t279 t282 t283) else (path_To.j0 k t284 t285 false t277 t278 t279 t282 t283)) = some (r1, r2, r3, r4, r5, r6) := H
 have A2 := Aside0.mk A20
 clear A20
 have HC3 := Aside0.mk H
 clear H
 go_enter Tryz.func19, Tryz.ntmps19
 go_upto_region 2 with (first | ((with_reducible refine gate_dst (N := 2) rfl ?_); refine box_event ?hg (N := 2) ?hd (cs := #[.bool false, .bool false, .slice none 0 0, .string (⟨#[]⟩ : ByteArray), .string (⟨#[]⟩ : ByteArray)]) (t := 26) ?hr ?_; (case hd => rfl); (case hg => rfl); (case hr => first | (go_simp; done) | (go_simp; rfl)); intro gb276 hg w4 hbox hb; have BK276 := Aside0.mk (hbox); have GW276 := Aside0.mk (gz hg : w.heap.size ≤ gb276); have GE276 := Aside0.mk (gz hg : w.heap.size ≤ gb276); replace HB := Aside0.mk (below_step bl hb); clear hb hbox hg) | ((with_reducible refine gate_callee (f := 13) rfl ?_); refine goesL_ (some 9) rfl rfl Tryz.func13 kf rfl #[.string a0] rfl ml ?_; (with_reducible refine (path_Parse.calls k a0 t277 t278 t279 t282 t283 t284 t285 _ ?side1 A2.out).mono ?_); (case side1 => exact Glob.below HG.out bl); rintro e w5 ⟨v280, rfl, ho0, hb⟩; refine ⟨_, rfl, ?_⟩; have HO281 := Aside0.mk (Kd.R_lower ho0 (below_size bl)); replace BK276 := Aside0.mk (kb BK276.out hb); replace HB := Aside0.mk (below_step bl hb); (try clear hb); (try clear hb2); (try clear hk); (try clear hi); (try clear ho0)) | ((with_reducible refine gate_dst (N := 4) rfl ?_); refine box_event ?hg (N := 4) ?hd (cs := #[.bool false, .bool false, .slice none 0 0, .string (⟨#[]⟩ : ByteArray), .string (⟨#[]⟩ : ByteArray)]) (t := 26) ?hr ?_; (case hd => rfl); (case hg => rfl); (case hr => first | (go_simp; done) | (go_simp; rfl)); intro gb286 hg w6 hbox hb; replace HO281 := Aside0.mk (Kd.R_below (kr HO281.out) hb); have BK286 := Aside0.mk (hbox); have GW286 := Aside0.mk (gz hg : w.heap.size ≤ gb286); have GE286 := Aside0.mk (gz hg : w.heap.size ≤ gb286); replace HB := Aside0.mk (below_step bl hb); have NB276_286 := Aside0.mk (nl hg BK276.out : gb276 ≠ gb286); have NB286_276 := Aside0.mk (ng hg BK276.out : gb286 ≠ gb276); replace BK276 := Aside0.mk (kb BK276.out hb); clear hb hbox hg; have hnb7 := NB286_276.out; have hnc7 := NB276_286.out; have hcz8_0 := cz BK286.out 0 (.bool false); have hcz8_1 := cz BK286.out 1 (.bool false); have hcz8_2 := cz BK286.out 2 (.slice none 0 0); have hcz8_3 := cz BK286.out 3 (.string (⟨#[]⟩ : ByteArray)); have hcz8_4 := cz BK286.out 4 (.string (⟨#[]⟩ : ByteArray)); have hfz8_0 := blk_frozen BK286.out 0; have hfz8_1 := blk_frozen BK286.out 1; have hfz8_2 := blk_frozen BK286.out 2; have hfz8_3 := blk_frozen BK286.out 3; have hfz8_4 := blk_frozen BK286.out 4; obtain ⟨Ao9, co9, eo9⟩ := Kd.R_slice HO281.out; subst eo9))
 (try simp only [Act.put, sA, sB, sC])
 go_cut [18] (fun v18 wc => ∃ (kq : Nat) (x18_2 : Bool), v18 = .bool x18_2 ∧ Aside0 (path_To.j0 kq t284 t285 x18_2 t277 t278 t279 t282 t283 = some (r1, r2, r3, r4, r5, r6)) ∧ Aside0 (kq ≤ k) ∧ Aside0 (Kd.R Kd.string 9 wc w.heap.size (fun _ => True) (.slice Ao9 t279.length co9) t279) ∧ Aside0 (wc.heap[gb276]? = some (.cells #[.bool false, .bool false, (.slice none 0 0), .string (⟨#[]⟩ : ByteArray), .string (⟨#[]⟩ : ByteArray)] 26 (0, 0))) ∧ Aside0 (wc.heap[gb286]? = some (.cells #[.bool t277, .bool t278, (.slice Ao9 t279.length co9), .string t282, .string t283] 26 (0, 0))) ∧ Aside0 (Below w.heap.size w wc))
 case first =>
  have H := HC3.out
  clear HC3
  by_cases c10 : t285 = 0
  ·rw [if_pos c10] at H
   have c10b0 : (t285 == 0) = true := beq_iff_eq.mpr c10
   have c10b1 : (t285 != 0) = false := bne_eq_false_iff_eq.mpr c10
   clear c10
   (first | rw [c10b0] | (simp only [i64_w, i32_w]; rw [c10b0]) | skip)
   have H' := Aside0.mk H
   clear H
   have hnb11 := NB286_276.out
   have hnc11 := NB276_286.out
   have hcz12_0 := cz BK286.out 0 (.bool false)
   have hcz12_1 := cz BK286.out 1 (.bool false)
   have hcz12_2 := cz BK286.out 2 (.slice none 0 0)
   have hcz12_3 := cz BK286.out 3 (.string (⟨#[]⟩ : ByteArray))
   have hcz12_4 := cz BK286.out 4 (.string (⟨#[]⟩ : ByteArray))
   have hfz12_0 := blk_frozen BK286.out 0
   have hfz12_1 := blk_frozen BK286.out 1
   have hfz12_2 := blk_frozen BK286.out 2
   have hfz12_3 := blk_frozen BK286.out 3
   have hfz12_4 := blk_frozen BK286.out 4
   go_wp2
   go_meet
   case rel => exact ⟨_, (t277), rs, H', ⟨by first | omega | exact Nat.le_refl _⟩, ⟨by (with_reducible repeat (first | apply Kd.R_alloc | apply Kd.R_drewN | apply Kd.R_drew)); exact Kd.R_mono (Kd.R_far (p := ⟨gb286, 4, none⟩) (Kd.R_far (p := ⟨gb286, 3, none⟩) (Kd.R_far (p := ⟨gb286, 2, none⟩) (Kd.R_far (p := ⟨gb286, 1, none⟩) (Kd.R_far (p := ⟨gb286, 0, none⟩) (Kd.R_types HO281.out BK286.out (by decide)) (fun _ hk => hk.2) (.bool t277)) (fun _ hk => hk.2) (.bool t278)) (fun _ hk => hk.2) (.slice Ao9 t279.length co9)) (fun _ hk => hk.2) (.string t282)) (fun _ hk => hk.2) (.string t283)) (fun _ hk => trivial)⟩, ⟨bk BK276.out⟩, ⟨by (with_reducible repeat (first | refine blk_drewN ?_ _ | refine blk_drew ?_ | refine blk_alloc ?_ _)); refine blk_put (cs := #[.bool t277, .bool t278, .slice Ao9 t279.length co9, .string t282, .string (⟨#[]⟩ : ByteArray)]) ?_ 4 _ rfl; (with_reducible repeat (first | refine blk_drewN ?_ _ | refine blk_drew ?_ | refine blk_alloc ?_ _)); refine blk_put (cs := #[.bool t277, .bool t278, .slice Ao9 t279.length co9, .string (⟨#[]⟩ : ByteArray), .string (⟨#[]⟩ : ByteArray)]) ?_ 3 _ rfl; (with_reducible repeat (first | refine blk_drewN ?_ _ | refine blk_drew ?_ | refine blk_alloc ?_ _)); refine blk_put (cs := #[.bool t277, .bool t278, .slice none 0 0, .string (⟨#[]⟩ : ByteArray), .string (⟨#[]⟩ : ByteArray)]) ?_ 2 _ rfl; (with_reducible repeat (first | refine blk_drewN ?_ _ | refine blk_drew ?_ | refine blk_alloc ?_ _)); refine blk_put (cs := #[.bool t277, .bool false, .slice none 0 0, .string (⟨#[]⟩ : ByteArray), .string (⟨#[]⟩ : ByteArray)]) ?_ 1 _ rfl; (with_reducible repeat (first | refine blk_drewN ?_ _ | refine blk_drew ?_ | refine blk_alloc ?_ _)); refine blk_put (cs := #[.bool false, .bool false, .slice none 0 0, .string (⟨#[]⟩ : ByteArray), .string (⟨#[]⟩ : ByteArray)]) ?_ 0 _ rfl; (with_reducible repeat (first | refine blk_drewN ?_ _ | refine blk_drew ?_ | refine blk_alloc ?_ _)); exact BK286.out⟩, ⟨bl⟩⟩
  ·rw [if_neg c10] at H
   have c10b0 : (t285 == 0) = false := beq_eq_false_iff_ne.mpr c10
   have c10b1 : (t285 != 0) = true := bne_iff_ne.mpr c10
   (first | rw [c10b0] | (simp only [i64_w, i32_w]; rw [c10b0]) | skip)
   have H' := Aside0.mk H
   clear H
   go_wp2
   go_meet
   case rel => exact ⟨_, (false), rs, H', ⟨by first | omega | exact Nat.le_refl _⟩, ⟨by (with_reducible repeat (first | apply Kd.R_alloc | apply Kd.R_drewN | apply Kd.R_drew)); exact Kd.R_mono (Kd.R_far (p := ⟨gb286, 4, none⟩) (Kd.R_far (p := ⟨gb286, 3, none⟩) (Kd.R_far (p := ⟨gb286, 2, none⟩) (Kd.R_far (p := ⟨gb286, 1, none⟩) (Kd.R_far (p := ⟨gb286, 0, none⟩) (Kd.R_types HO281.out BK286.out (by decide)) (fun _ hk => hk.2) (.bool t277)) (fun _ hk => hk.2) (.bool t278)) (fun _ hk => hk.2) (.slice Ao9 t279.length co9)) (fun _ hk => hk.2) (.string t282)) (fun _ hk => hk.2) (.string t283)) (fun _ hk => trivial)⟩, ⟨bk BK276.out⟩, ⟨by (with_reducible repeat (first | refine blk_drewN ?_ _ | refine blk_drew ?_ | refine blk_alloc ?_ _)); refine blk_put (cs := #[.bool t277, .bool t278, .slice Ao9 t279.length co9, .string t282, .string (⟨#[]⟩ : ByteArray)]) ?_ 4 _ rfl; (with_reducible repeat (first | refine blk_drewN ?_ _ | refine blk_drew ?_ | refine blk_alloc ?_ _)); refine blk_put (cs := #[.bool t277, .bool t278, .slice Ao9 t279.length co9, .string (⟨#[]⟩ : ByteArray), .string (⟨#[]⟩ : ByteArray)]) ?_ 3 _ rfl; (with_reducible repeat (first | refine blk_drewN ?_ _ | refine blk_drew ?_ | refine blk_alloc ?_ _)); refine blk_put (cs := #[.bool t277, .bool t278, .slice none 0 0, .string (⟨#[]⟩ : ByteArray), .string (⟨#[]⟩ : ByteArray)]) ?_ 2 _ rfl; (with_reducible repeat (first | refine blk_drewN ?_ _ | refine blk_drew ?_ | refine blk_alloc ?_ _)); refine blk_put (cs := #[.bool t277, .bool false, .slice none 0 0, .string (⟨#[]⟩ : ByteArray), .string (⟨#[]⟩ : ByteArray)]) ?_ 1 _ rfl; (with_reducible repeat (first | refine blk_drewN ?_ _ | refine blk_drew ?_ | refine blk_alloc ?_ _)); refine blk_put (cs := #[.bool false, .bool false, .slice none 0 0, .string (⟨#[]⟩ : ByteArray), .string (⟨#[]⟩ : ByteArray)]) ?_ 0 _ rfl; (with_reducible repeat (first | refine blk_drewN ?_ _ | refine blk_drew ?_ | refine blk_alloc ?_ _)); exact BK286.out⟩, ⟨bl⟩⟩
 case rest =>
  clear HC3
  try clear c1
  try clear p2
  try clear c7
  try clear c10
  try clear c10b0
  try clear c10b1
  try clear c11
  try clear hcz12_0
  try clear hcz12_1
  try clear hcz12_2
  try clear hcz12_3
  try clear hcz12_4
  try clear hcz8_0
  try clear hcz8_1
  try clear hcz8_2
  try clear hcz8_3
  try clear hcz8_4
  try clear hfz12_0
  try clear hfz12_1
  try clear hfz12_2
  try clear hfz12_3
  try clear hfz12_4
  try clear hfz8_0
  try clear hfz8_1
  try clear hfz8_2
  try clear hfz8_3
  try clear hfz8_4
  obtain ⟨kq, x18_2, rfl, HA, HJ2, HO_287002, BK276, BK286, HB⟩ := hcut
  cases kq with
  | zero => exact absurd HA.out (by simp [path_To.j0])
  | succ kj2 =>
   have H := HA.out
   clear HA
   simp only [path_To.j0] at H
   have HC13 := Aside0.mk H
   clear H
   go_upto_if 18 with (fail)
   go_cut [6] (fun v6 wc => ∃ (kq : Nat) (x6_12 : Int), v6 = .int .i64 x6_12 ∧ Aside0 (path_To.j1 kq t284 x6_12 t277 t278 t279 t282 t283 = some (r1, r2, r3, r4, r5, r6)) ∧ Aside0 (kq ≤ kj2) ∧ Aside0 (Kd.R Kd.string 9 wc w.heap.size (fun _ => True) (.slice Ao9 t279.length co9) t279) ∧ Aside0 (wc.heap[gb276]? = some (.cells #[.bool false, .bool false, (.slice none 0 0), .string (⟨#[]⟩ : ByteArray), .string (⟨#[]⟩ : ByteArray)] 26 (0, 0))) ∧ Aside0 (wc.heap[gb286]? = some (.cells #[.bool t277, .bool t278, (.slice Ao9 t279.length co9), .string t282, .string t283] 26 (0, 0))) ∧ Aside0 (Below w.heap.size w wc))
   case first =>
    have H := HC13.out
    clear HC13
    by_cases c14 : x18_2 = true
    ·subst c14
     replace H : (path_To.j1 kj2 t284 5 t277 t278 t279 t282 t283) = some (r1, r2, r3, r4, r5, r6) := by rw [if_pos rfl] at H; exact H
     have H' := Aside0.mk H
     clear H
     go_wp2
     go_meet
     case rel => exact ⟨_, (5), rs, H', ⟨by have := HJ2.out; first | omega | exact Nat.le_refl _⟩, ⟨kr HO_287002.out⟩, ⟨bk BK276.out⟩, ⟨bk BK286.out⟩, ⟨bl⟩⟩
    ·replace c14 := Bool.eq_false_iff.mpr c14
     subst c14
     replace H : (path_To.j1 kj2 t284 t285 t277 t278 t279 t282 t283) = some (r1, r2, r3, r4, r5, r6) := by rw [if_neg (show ¬ (false = true) by decide)] at H; exact H
     have H' := Aside0.mk H
     clear H
     go_wp2
     go_meet
     case rel => exact ⟨_, (t285), rs, H', ⟨by have := HJ2.out; first | omega | exact Nat.le_refl _⟩, ⟨kr HO_287002.out⟩, ⟨bk BK276.out⟩, ⟨bk BK286.out⟩, ⟨bl⟩⟩
   case rest =>
    clear HC13
    try clear c1
    try clear p2
    try clear c7
    try clear c10
    try clear c10b0
    try clear c10b1
    try clear c11
    try clear c13
    try clear c14
    try clear hcz12_0
    try clear hcz12_1
    try clear hcz12_2
    try clear hcz12_3
    try clear hcz12_4
    try clear hcz8_0
    try clear hcz8_1
    try clear hcz8_2
    try clear hcz8_3
    try clear hcz8_4
    try clear hfz12_0
    try clear hfz12_1
    try clear hfz12_2
    try clear hfz12_3
    try clear hfz12_4
    try clear hfz8_0
    try clear hfz8_1
    try clear hfz8_2
    try clear hfz8_3
    try clear hfz8_4
    try clear p2
    obtain ⟨kq, x6_12, rfl, HA, HJ12, HO_287002, BK276, BK286, HB⟩ := hcut
    cases kq with
    | zero => exact absurd HA.out (by simp [path_To.j1])
    | succ kj12 =>
     have H := HA.out
     clear HA
     simp only [path_To.j1] at H
     have HC15 := Aside0.mk H
     clear H
     go_upto_region 4 with (fail)
     go_cut [24] (fun v24 wc => ∃ (kq : Nat) (x24_14 : Bool), v24 = .bool x24_14 ∧ Aside0 (path_To.j2 kq t284 x6_12 x24_14 t277 t278 t279 t282 t283 = some (r1, r2, r3, r4, r5, r6)) ∧ Aside0 (kq ≤ kj12) ∧ Aside0 (Kd.R Kd.string 9 wc w.heap.size (fun _ => True) (.slice Ao9 t279.length co9) t279) ∧ Aside0 (wc.heap[gb276]? = some (.cells #[.bool false, .bool false, (.slice none 0 0), .string (⟨#[]⟩ : ByteArray), .string (⟨#[]⟩ : ByteArray)] 26 (0, 0))) ∧ Aside0 (wc.heap[gb286]? = some (.cells #[.bool t277, .bool t278, (.slice Ao9 t279.length co9), .string t282, .string t283] 26 (0, 0))) ∧ Aside0 (Below w.heap.size w wc))
     case first =>
      have H := HC15.out
      clear HC15
      by_cases c16 : x6_12 = 0
      ·rw [if_pos c16] at H
       have c16b0 : (x6_12 == 0) = true := beq_iff_eq.mpr c16
       have c16b1 : (x6_12 != 0) = false := bne_eq_false_iff_eq.mpr c16
       clear c16
       (first | rw [c16b0] | (simp only [i64_w, i32_w]; rw [c16b0]) | skip)
       have H' := Aside0.mk H
       clear H
       go_wp2
       go_meet
       case rel => exact ⟨_, ((t284.toList != ([] : List UInt8))), rs, H', ⟨by have := HJ2.out; have := HJ12.out; first | omega | exact Nat.le_refl _⟩, ⟨kr HO_287002.out⟩, ⟨bk BK276.out⟩, ⟨bk BK286.out⟩, ⟨bl⟩⟩
      ·rw [if_neg c16] at H
       have c16b0 : (x6_12 == 0) = false := beq_eq_false_iff_ne.mpr c16
       have c16b1 : (x6_12 != 0) = true := bne_iff_ne.mpr c16
       (first | rw [c16b0] | (simp only [i64_w, i32_w]; rw [c16b0]) | skip)
       have H' := Aside0.mk H
       clear H
       go_wp2
       go_meet
       case rel => exact ⟨_, (false), rs, H', ⟨by have := HJ2.out; have := HJ12.out; first | omega | exact Nat.le_refl _⟩, ⟨kr HO_287002.out⟩, ⟨bk BK276.out⟩, ⟨bk BK286.out⟩, ⟨bl⟩⟩
     case rest =>
      clear HC15
      try clear c1
      try clear p2
      try clear c7
      try clear c10
      try clear c10b0
      try clear c10b1
      try clear c11
      try clear c13
      try clear c14
      try clear c16
      try clear c16b0
      try clear c16b1
      try clear hcz12_0
      try clear hcz12_1
      try clear hcz12_2
      try clear hcz12_3
      try clear hcz12_4
      try clear hcz8_0
      try clear hcz8_1
      try clear hcz8_2
      try clear hcz8_3
      try clear hcz8_4
      try clear hfz12_0
      try clear hfz12_1
      try clear hfz12_2
      try clear hfz12_3
      try clear hfz12_4
      try clear hfz8_0
      try clear hfz8_1
      try clear hfz8_2
      try clear hfz8_3
      try clear hfz8_4
      try clear p2
      obtain ⟨kq, x24_14, rfl, HA, HJ14, HO_287002, BK276, BK286, HB⟩ := hcut
      cases kq with
      | zero => exact absurd HA.out (by simp [path_To.j2])
      | succ kj14 =>
       have H := HA.out
       clear HA
       simp only [path_To.j2] at H
       by_cases c17 : x24_14 = true
       ·subst c17
        replace H : ((path_ParseParams.f kj14 t284).bind fun bt287 => (if bt287.2.2.2 = 0 then (if 1 = 0 then (some (t277, t278, t279, t282, t283, 0)) else (some (false, false, ([] : List ByteArray), (⟨#[]⟩ : ByteArray), (⟨#[]⟩ : ByteArray), 1))) else (some (false, false, ([] : List ByteArray), (⟨#[]⟩ : ByteArray), (⟨#[]⟩ : ByteArray), bt287.2.2.2)))) = some (r1, r2, r3, r4, r5, r6) := by rw [if_pos rfl] at H; exact H
        obtain ⟨⟨t287, t288, t289, t290⟩, A180, H⟩ := Option.bind_eq_some_iff.mp H
        replace H : (if t290 = 0 then (if 1 = 0 then (some (t277, t278, t279, t282, t283, 0)) else (some (false, false, ([] : List ByteArray), (⟨#[]⟩ : ByteArray), (⟨#[]⟩ : ByteArray), 1))) else (some (false, false, ([] : List ByteArray), (⟨#[]⟩ : ByteArray), (⟨#[]⟩ : ByteArray), t290))) = some (r1, r2, r3, r4, r5, r6) := H
        have A18 := Aside0.mk A180
        clear A180
        by_cases c19 : t290 = 0
        ·rw [if_pos c19] at H
         have c19b0 : (t290 == 0) = true := beq_iff_eq.mpr c19
         have c19b1 : (t290 != 0) = false := bne_eq_false_iff_eq.mpr c19
         clear c19
         by_cases c20 : 1 = 0
         ·exact absurd c20 (by decide)
         ·rw [if_neg c20] at H
          have c20b0 : (1 == 0) = false := beq_eq_false_iff_ne.mpr c20
          have c20b1 : (1 != 0) = true := bne_iff_ne.mpr c20
          simp only [Option.some.injEq, Prod.mk.injEq] at H
          obtain ⟨rfl, rfl, rfl, rfl, rfl, rfl⟩ := H
          go_wp2_with (first | ((with_reducible refine gate_callee (f := 17) rfl ?_); refine goesL_ (some 27) rfl rfl Tryz.func17 kf rfl #[.string t284] rfl ml ?_; (with_reducible refine (path_ParseParams.calls kj14 t284 t287 t288 t289 t290 _ ?side1 A18.out).mono ?_); (case side1 => exact Glob.below HG.out bl); rintro e w25 ⟨rfl, hb⟩; refine ⟨_, rfl, ?_⟩; replace HO_287002 := Aside0.mk (Kd.R_below (kr HO_287002.out) hb); replace BK276 := Aside0.mk (kb BK276.out hb); replace BK286 := Aside0.mk (kb BK286.out hb); replace HB := Aside0.mk (below_step bl hb); (try clear hb); (try clear hb2); (try clear hk); (try clear hi); have hnb26 := NB276_286.out; have hnc26 := NB286_276.out; have hcz27_0 := cz BK276.out 0 (.bool false); have hcz27_1 := cz BK276.out 1 (.bool false); have hcz27_2 := cz BK276.out 2 (.slice none 0 0); have hcz27_3 := cz BK276.out 3 (.string (⟨#[]⟩ : ByteArray)); have hcz27_4 := cz BK276.out 4 (.string (⟨#[]⟩ : ByteArray)); have hfz27_0 := blk_frozen BK276.out 0; have hfz27_1 := blk_frozen BK276.out 1; have hfz27_2 := blk_frozen BK276.out 2; have hfz27_3 := blk_frozen BK276.out 3; have hfz27_4 := blk_frozen BK276.out 4))
          refine bodyPost_ret (results_ct rfl _ _ gb276 26 #[.bool false, .bool false, .slice none 0 0, .string (⟨#[]⟩ : ByteArray), .string (⟨#[]⟩ : ByteArray)] (0, 0) _ rfl (by (with_reducible repeat (first | refine blk_drewN ?_ _ | refine blk_drew ?_ | refine blk_alloc ?_ _)); refine blk_put (cs := #[.bool false, .bool false, .slice none 0 0, .string (⟨#[]⟩ : ByteArray), .string (⟨#[]⟩ : ByteArray)]) ?_ 4 _ rfl; (with_reducible repeat (first | refine blk_drewN ?_ _ | refine blk_drew ?_ | refine blk_alloc ?_ _)); refine blk_put (cs := #[.bool false, .bool false, .slice none 0 0, .string (⟨#[]⟩ : ByteArray), .string (⟨#[]⟩ : ByteArray)]) ?_ 3 _ rfl; (with_reducible repeat (first | refine blk_drewN ?_ _ | refine blk_drew ?_ | refine blk_alloc ?_ _)); refine blk_put (cs := #[.bool false, .bool false, .slice none 0 0, .string (⟨#[]⟩ : ByteArray), .string (⟨#[]⟩ : ByteArray)]) ?_ 2 _ rfl; (with_reducible repeat (first | refine blk_drewN ?_ _ | refine blk_drew ?_ | refine blk_alloc ?_ _)); refine blk_put (cs := #[.bool false, .bool false, .slice none 0 0, .string (⟨#[]⟩ : ByteArray), .string (⟨#[]⟩ : ByteArray)]) ?_ 1 _ rfl; (with_reducible repeat (first | refine blk_drewN ?_ _ | refine blk_drew ?_ | refine blk_alloc ?_ _)); refine blk_put (cs := #[.bool false, .bool false, .slice none 0 0, .string (⟨#[]⟩ : ByteArray), .string (⟨#[]⟩ : ByteArray)]) ?_ 0 _ rfl; (with_reducible repeat (first | refine blk_drewN ?_ _ | refine blk_drew ?_ | refine blk_alloc ?_ _)); exact BK276.out) Tryz.underlying26 rfl kf) rfl ?_
          exact ⟨_, by first | rfl | (simp [errW_none, errW_some] <;> rfl) | (simp [*, errW_none, errW_some] <;> rfl), by first | exact Kd.R_nil _ _ _ _ _ | exact Kd.N_nil _ _ _ _ _ | exact Kd.V_nil _ _ _ _ _ | exact Kd.Q_nil _ _ _ _ _ | exact Kd.S_nil _ _ _ _ _, bl⟩
        ·rw [if_neg c19] at H
         have c19b0 : (t290 == 0) = false := beq_eq_false_iff_ne.mpr c19
         have c19b1 : (t290 != 0) = true := bne_iff_ne.mpr c19
         simp only [Option.some.injEq, Prod.mk.injEq] at H
         obtain ⟨rfl, rfl, rfl, rfl, rfl, rfl⟩ := H
         go_wp2_with (first | ((with_reducible refine gate_callee (f := 17) rfl ?_); refine goesL_ (some 27) rfl rfl Tryz.func17 kf rfl #[.string t284] rfl ml ?_; (with_reducible refine (path_ParseParams.calls kj14 t284 t287 t288 t289 t290 _ ?side1 A18.out).mono ?_); (case side1 => exact Glob.below HG.out bl); rintro e w28 ⟨rfl, hb⟩; refine ⟨_, rfl, ?_⟩; replace HO_287002 := Aside0.mk (Kd.R_below (kr HO_287002.out) hb); replace BK276 := Aside0.mk (kb BK276.out hb); replace BK286 := Aside0.mk (kb BK286.out hb); replace HB := Aside0.mk (below_step bl hb); (try clear hb); (try clear hb2); (try clear hk); (try clear hi); have hnb29 := NB276_286.out; have hnc29 := NB286_276.out; have hcz30_0 := cz BK276.out 0 (.bool false); have hcz30_1 := cz BK276.out 1 (.bool false); have hcz30_2 := cz BK276.out 2 (.slice none 0 0); have hcz30_3 := cz BK276.out 3 (.string (⟨#[]⟩ : ByteArray)); have hcz30_4 := cz BK276.out 4 (.string (⟨#[]⟩ : ByteArray)); have hfz30_0 := blk_frozen BK276.out 0; have hfz30_1 := blk_frozen BK276.out 1; have hfz30_2 := blk_frozen BK276.out 2; have hfz30_3 := blk_frozen BK276.out 3; have hfz30_4 := blk_frozen BK276.out 4))
         refine bodyPost_ret (results_ct rfl _ _ gb276 26 #[.bool false, .bool false, .slice none 0 0, .string (⟨#[]⟩ : ByteArray), .string (⟨#[]⟩ : ByteArray)] (0, 0) _ rfl (by (with_reducible repeat (first | refine blk_drewN ?_ _ | refine blk_drew ?_ | refine blk_alloc ?_ _)); refine blk_put (cs := #[.bool false, .bool false, .slice none 0 0, .string (⟨#[]⟩ : ByteArray), .string (⟨#[]⟩ : ByteArray)]) ?_ 4 _ rfl; (with_reducible repeat (first | refine blk_drewN ?_ _ | refine blk_drew ?_ | refine blk_alloc ?_ _)); refine blk_put (cs := #[.bool false, .bool false, .slice none 0 0, .string (⟨#[]⟩ : ByteArray), .string (⟨#[]⟩ : ByteArray)]) ?_ 3 _ rfl; (with_reducible repeat (first | refine blk_drewN ?_ _ | refine blk_drew ?_ | refine blk_alloc ?_ _)); refine blk_put (cs := #[.bool false, .bool false, .slice none 0 0, .string (⟨#[]⟩ : ByteArray), .string (⟨#[]⟩ : ByteArray)]) ?_ 2 _ rfl; (with_reducible repeat (first | refine blk_drewN ?_ _ | refine blk_drew ?_ | refine blk_alloc ?_ _)); refine blk_put (cs := #[.bool false, .bool false, .slice none 0 0, .string (⟨#[]⟩ : ByteArray), .string (⟨#[]⟩ : ByteArray)]) ?_ 1 _ rfl; (with_reducible repeat (first | refine blk_drewN ?_ _ | refine blk_drew ?_ | refine blk_alloc ?_ _)); refine blk_put (cs := #[.bool false, .bool false, .slice none 0 0, .string (⟨#[]⟩ : ByteArray), .string (⟨#[]⟩ : ByteArray)]) ?_ 0 _ rfl; (with_reducible repeat (first | refine blk_drewN ?_ _ | refine blk_drew ?_ | refine blk_alloc ?_ _)); exact BK276.out) Tryz.underlying26 rfl kf) rfl ?_
         exact ⟨_, by first | rfl | (simp [errW_none, errW_some] <;> rfl) | (simp [*, errW_none, errW_some] <;> rfl), by first | exact Kd.R_nil _ _ _ _ _ | exact Kd.N_nil _ _ _ _ _ | exact Kd.V_nil _ _ _ _ _ | exact Kd.Q_nil _ _ _ _ _ | exact Kd.S_nil _ _ _ _ _, bl⟩
       ·replace c17 := Bool.eq_false_iff.mpr c17
        subst c17
        replace H : (if x6_12 = 0 then (some (t277, t278, t279, t282, t283, 0)) else (some (false, false, ([] : List ByteArray), (⟨#[]⟩ : ByteArray), (⟨#[]⟩ : ByteArray), x6_12))) = some (r1, r2, r3, r4, r5, r6) := by rw [if_neg (show ¬ (false = true) by decide)] at H; exact H
        by_cases c31 : x6_12 = 0
        ·rw [if_pos c31] at H
         have c31b0 : (x6_12 == 0) = true := beq_iff_eq.mpr c31
         have c31b1 : (x6_12 != 0) = false := bne_eq_false_iff_eq.mpr c31
         clear c31
         simp only [Option.some.injEq, Prod.mk.injEq] at H
         obtain ⟨rfl, rfl, rfl, rfl, rfl, rfl⟩ := H
         have hnb32 := NB286_276.out
         have hnc32 := NB276_286.out
         have hcz33_0 := cz BK286.out 0 (.bool t277)
         have hcz33_1 := cz BK286.out 1 (.bool t278)
         have hcz33_2 := cz BK286.out 2 (.slice Ao9 t279.length co9)
         have hcz33_3 := cz BK286.out 3 (.string t282)
         have hcz33_4 := cz BK286.out 4 (.string t283)
         have hfz33_0 := blk_frozen BK286.out 0
         have hfz33_1 := blk_frozen BK286.out 1
         have hfz33_2 := blk_frozen BK286.out 2
         have hfz33_3 := blk_frozen BK286.out 3
         have hfz33_4 := blk_frozen BK286.out 4
         have hcz34_0 := cz BK276.out 0 (.bool false)
         have hcz34_1 := cz BK276.out 1 (.bool false)
         have hcz34_2 := cz BK276.out 2 (.slice none 0 0)
         have hcz34_3 := cz BK276.out 3 (.string (⟨#[]⟩ : ByteArray))
         have hcz34_4 := cz BK276.out 4 (.string (⟨#[]⟩ : ByteArray))
         have hfz34_0 := blk_frozen BK276.out 0
         have hfz34_1 := blk_frozen BK276.out 1
         have hfz34_2 := blk_frozen BK276.out 2
         have hfz34_3 := blk_frozen BK276.out 3
         have hfz34_4 := blk_frozen BK276.out 4
         go_wp2
         refine bodyPost_ret (results_ct rfl _ _ gb276 26 #[.bool t277, .bool t278, .slice Ao9 t279.length co9, .string t282, .string t283] (0, 0) _ rfl (by (with_reducible repeat (first | refine blk_drewN ?_ _ | refine blk_drew ?_ | refine blk_alloc ?_ _)); refine blk_put (cs := #[.bool t277, .bool t278, .slice Ao9 t279.length co9, .string t282, .string (⟨#[]⟩ : ByteArray)]) ?_ 4 _ rfl; (with_reducible repeat (first | refine blk_drewN ?_ _ | refine blk_drew ?_ | refine blk_alloc ?_ _)); refine blk_put (cs := #[.bool t277, .bool t278, .slice Ao9 t279.length co9, .string (⟨#[]⟩ : ByteArray), .string (⟨#[]⟩ : ByteArray)]) ?_ 3 _ rfl; (with_reducible repeat (first | refine blk_drewN ?_ _ | refine blk_drew ?_ | refine blk_alloc ?_ _)); refine blk_put (cs := #[.bool t277, .bool t278, .slice none 0 0, .string (⟨#[]⟩ : ByteArray), .string (⟨#[]⟩ : ByteArray)]) ?_ 2 _ rfl; (with_reducible repeat (first | refine blk_drewN ?_ _ | refine blk_drew ?_ | refine blk_alloc ?_ _)); refine blk_put (cs := #[.bool t277, .bool false, .slice none 0 0, .string (⟨#[]⟩ : ByteArray), .string (⟨#[]⟩ : ByteArray)]) ?_ 1 _ rfl; (with_reducible repeat (first | refine blk_drewN ?_ _ | refine blk_drew ?_ | refine blk_alloc ?_ _)); refine blk_put (cs := #[.bool false, .bool false, .slice none 0 0, .string (⟨#[]⟩ : ByteArray), .string (⟨#[]⟩ : ByteArray)]) ?_ 0 _ rfl; (with_reducible repeat (first | refine blk_drewN ?_ _ | refine blk_drew ?_ | refine blk_alloc ?_ _)); exact BK276.out) Tryz.underlying26 rfl kf) rfl ?_
         exact ⟨_, by first | rfl | (simp [errW_none, errW_some] <;> rfl) | (simp [*, errW_none, errW_some] <;> rfl), by (with_reducible repeat (first | apply Kd.R_alloc | apply Kd.R_drewN | apply Kd.R_drew)); exact Kd.R_mono (Kd.R_far (p := ⟨gb276, 4, none⟩) (Kd.R_far (p := ⟨gb276, 3, none⟩) (Kd.R_far (p := ⟨gb276, 2, none⟩) (Kd.R_far (p := ⟨gb276, 1, none⟩) (Kd.R_far (p := ⟨gb276, 0, none⟩) (Kd.R_types HO_287002.out BK276.out (by decide)) (fun _ hk => hk.2) (.bool t277)) (fun _ hk => hk.2) (.bool t278)) (fun _ hk => hk.2) (.slice Ao9 t279.length co9)) (fun _ hk => hk.2) (.string t282)) (fun _ hk => hk.2) (.string t283)) (fun _ hk => trivial), bl⟩
        ·rw [if_neg c31] at H
         have c31b0 : (x6_12 == 0) = false := beq_eq_false_iff_ne.mpr c31
         have c31b1 : (x6_12 != 0) = true := bne_iff_ne.mpr c31
         simp only [Option.some.injEq, Prod.mk.injEq] at H
         obtain ⟨rfl, rfl, rfl, rfl, rfl, rfl⟩ := H
         have hnb35 := NB276_286.out
         have hnc35 := NB286_276.out
         have hcz36_0 := cz BK276.out 0 (.bool false)
         have hcz36_1 := cz BK276.out 1 (.bool false)
         have hcz36_2 := cz BK276.out 2 (.slice none 0 0)
         have hcz36_3 := cz BK276.out 3 (.string (⟨#[]⟩ : ByteArray))
         have hcz36_4 := cz BK276.out 4 (.string (⟨#[]⟩ : ByteArray))
         have hfz36_0 := blk_frozen BK276.out 0
         have hfz36_1 := blk_frozen BK276.out 1
         have hfz36_2 := blk_frozen BK276.out 2
         have hfz36_3 := blk_frozen BK276.out 3
         have hfz36_4 := blk_frozen BK276.out 4
         go_wp2
         refine bodyPost_ret (results_ct rfl _ _ gb276 26 #[.bool false, .bool false, .slice none 0 0, .string (⟨#[]⟩ : ByteArray), .string (⟨#[]⟩ : ByteArray)] (0, 0) _ rfl (by (with_reducible repeat (first | refine blk_drewN ?_ _ | refine blk_drew ?_ | refine blk_alloc ?_ _)); refine blk_put (cs := #[.bool false, .bool false, .slice none 0 0, .string (⟨#[]⟩ : ByteArray), .string (⟨#[]⟩ : ByteArray)]) ?_ 4 _ rfl; (with_reducible repeat (first | refine blk_drewN ?_ _ | refine blk_drew ?_ | refine blk_alloc ?_ _)); refine blk_put (cs := #[.bool false, .bool false, .slice none 0 0, .string (⟨#[]⟩ : ByteArray), .string (⟨#[]⟩ : ByteArray)]) ?_ 3 _ rfl; (with_reducible repeat (first | refine blk_drewN ?_ _ | refine blk_drew ?_ | refine blk_alloc ?_ _)); refine blk_put (cs := #[.bool false, .bool false, .slice none 0 0, .string (⟨#[]⟩ : ByteArray), .string (⟨#[]⟩ : ByteArray)]) ?_ 2 _ rfl; (with_reducible repeat (first | refine blk_drewN ?_ _ | refine blk_drew ?_ | refine blk_alloc ?_ _)); refine blk_put (cs := #[.bool false, .bool false, .slice none 0 0, .string (⟨#[]⟩ : ByteArray), .string (⟨#[]⟩ : ByteArray)]) ?_ 1 _ rfl; (with_reducible repeat (first | refine blk_drewN ?_ _ | refine blk_drew ?_ | refine blk_alloc ?_ _)); refine blk_put (cs := #[.bool false, .bool false, .slice none 0 0, .string (⟨#[]⟩ : ByteArray), .string (⟨#[]⟩ : ByteArray)]) ?_ 0 _ rfl; (with_reducible repeat (first | refine blk_drewN ?_ _ | refine blk_drew ?_ | refine blk_alloc ?_ _)); exact BK276.out) Tryz.underlying26 rfl kf) rfl ?_
         exact ⟨_, by first | rfl | (simp [errW_none, errW_some] <;> rfl) | (simp [*, errW_none, errW_some] <;> rfl), by first | exact Kd.R_nil _ _ _ _ _ | exact Kd.N_nil _ _ _ _ _ | exact Kd.V_nil _ _ _ _ _ | exact Kd.Q_nil _ _ _ _ _ | exact Kd.S_nil _ _ _ _ _, bl⟩

end Go.Proofs.YtgelfnjicglmbaaGreatDoor.Q
end
