/- Walks of functions. -/
import Derived.Test.YtacjnapgdikhbaaGreatDoorQx0
import Derived.Test.YtacjnapgdikhbaaGreatDoorQx9
import Derived.Test.YtacjnapgdikhbaaGreatDoorQx13
set_option linter.unusedSimpArgs false
set_option linter.unusedVariables false
open Go.RowKit Go.Proofs.YtacjnapgdikhbaaGreatDoorW.PrintWords Go.Proofs.YtacjnapgdikhbaaGreatDoorW.PrintLast Go.Proofs.YtacjnapgdikhbaaGreatDoorW.PrintMore
set_option maxHeartbeats 8000000
set_option maxRecDepth 100000
attribute [local go_sem] max2_int min2_int max_two min_two max_three min_three max_four min_four
section
namespace Go.Proofs.YtacjnapgdikhbaaGreatDoor.Q

attribute [local go_sem high] eqA46
/-! ### postriderref22_Check: function 12 -/
mutual
def postriderref22_Check.l0 : Nat → List (S46) → List (S46) → List (S48) → List (S46) → Int → List (S79) → ByteArray → Bool → Option ((List (S46)) × (List (S48)))
 | 0, _, _, _, _, _, _, _, _ => none
 | k + 1, x1, x6, x7, x8, x9, x281000, x281001, x281002 => if x9 < (x1.length : Int) then (if 0 ≤ x9 then ((postriderref05_Normal.f k ((rd_T46 x1 x9).f0) ((rd_T46 x1 x9).f1)).bind fun bt285 => (postriderref22_Check.l1 k x1 x6 x7 x8 x9 false 0 x281000 x281001 x281002 bt285.1 bt285.2)) else (none)) else (some (x6, x7))
def postriderref22_Check.l1 : Nat → List (S46) → List (S46) → List (S48) → List (S46) → Int → Bool → Int → List (S79) → ByteArray → Bool → ByteArray → ByteArray → Option ((List (S46)) × (List (S48)))
 | 0, _, _, _, _, _, _, _, _, _, _, _, _ => none
 | k + 1, x1, x6, x7, x8, x9, x11, x12, x281000, x281001, x281002, x288000, x288001 => if x12 < (x8.length : Int) then (if 0 ≤ x12 then (if ((((rd_T46 x8 x12).f0).toList) == x288000.toList && ((((rd_T46 x8 x12).f1).toList) == x288001.toList)) = true then (postriderref22_Check.l1 k x1 x6 x7 x8 x9 true (wrap64 (x12 + 1)) x281000 x281001 x281002 x288000 x288001) else (postriderref22_Check.l1 k x1 x6 x7 x8 x9 x11 (wrap64 (x12 + 1)) x281000 x281001 x281002 x288000 x288001)) else (none)) else ((postriderref22_Hops.f k x281000 x281001 x281002).bind fun t289 => (if t289 > 25 then (if 0 ≤ x9 then (if x9 < (x1.length : Int) then (if x7.length < 2513169434916 then (postriderref22_Check.l0 k x1 x6 (x7 ++ [(⟨(⟨(rd_T46 x1 x9).f0, (rd_T46 x1 x9).f1⟩ : S46), 554, (⟨#[116, 111, 111, 32, 109, 97, 110, 121, 32, 104, 111, 112, 115]⟩ : ByteArray)⟩ : S48)]) x8 (wrap64 (x9 + 1)) x281000 x281001 x281002) else (none)) else (none)) else (none)) else (if x11 = true then (if 0 ≤ x9 then (if x9 < (x1.length : Int) then (if x7.length < 2513169434916 then (postriderref22_Check.l0 k x1 x6 (x7 ++ [(⟨(⟨(rd_T46 x1 x9).f0, (rd_T46 x1 x9).f1⟩ : S46), 554, (⟨#[109, 97, 105, 108, 32, 108, 111, 111, 112]⟩ : ByteArray)⟩ : S48)]) x8 (wrap64 (x9 + 1)) x281000 x281001 x281002) else (none)) else (none)) else (none)) else (if 0 ≤ x9 then (if x9 < (x1.length : Int) then (if x6.length < 4398046511104 then (postriderref22_Check.l0 k x1 (x6 ++ [(⟨(rd_T46 x1 x9).f0, (rd_T46 x1 x9).f1⟩ : S46)]) x7 x8 (wrap64 (x9 + 1)) x281000 x281001 x281002) else (none)) else (none)) else (none)))))
end
def postriderref22_Check.f (k : Nat) (l0_0 : List (S79)) (a0_1 : ByteArray) (a0_2 : Bool) (l1 : List (S46)) : Option ((List (S46)) × (List (S48))) := (postriderref22_Marks.f k l0_0 a0_1 a0_2).bind fun t281 => (postriderref22_Check.l0 k l1 ([] : List (S46)) ([] : List (S48)) t281 0 l0_0 a0_1 a0_2)
theorem postriderref22_Check.mono_l : ∀ k, (∀ y0 y1 y2 y3 y4 y5 y6 y7, LeO (postriderref22_Check.l0 k y0 y1 y2 y3 y4 y5 y6 y7) (postriderref22_Check.l0 (k + 1) y0 y1 y2 y3 y4 y5 y6 y7)) ∧ (∀ y0 y1 y2 y3 y4 y5 y6 y7 y8 y9 y10 y11, LeO (postriderref22_Check.l1 k y0 y1 y2 y3 y4 y5 y6 y7 y8 y9 y10 y11) (postriderref22_Check.l1 (k + 1) y0 y1 y2 y3 y4 y5 y6 y7 y8 y9 y10 y11))
 | 0 => ⟨fun _ _ _ _ _ _ _ _ r h => by simp [postriderref22_Check.l0] at h, fun _ _ _ _ _ _ _ _ _ _ _ _ r h => by simp [postriderref22_Check.l1] at h⟩
 | k + 1 => by
  obtain ⟨ih0, ih1⟩ := postriderref22_Check.mono_l k
  refine ⟨?_, ?_⟩
  ·intro y0 y1 y2 y3 y4 y5 y6 y7
   unfold postriderref22_Check.l0
   repeat' first
   | (with_reducible first | exact ih0 _ _ _ _ _ _ _ _ | exact ih1 _ _ _ _ _ _ _ _ _ _ _ _ | exact postriderref05_Normal.mono _ _ _ | exact postriderref22_Hops.mono _ _ _ _ | exact postriderref22_Marks.mono _ _ _ _ | exact LeO.refl _ | exact LeO.none _ | refine LeO.ite ?_ ?_ | refine LeO.bind ?_ (fun _ => ?_))
  ·intro y0 y1 y2 y3 y4 y5 y6 y7 y8 y9 y10 y11
   unfold postriderref22_Check.l1
   repeat' first
   | (with_reducible first | exact ih0 _ _ _ _ _ _ _ _ | exact ih1 _ _ _ _ _ _ _ _ _ _ _ _ | exact postriderref05_Normal.mono _ _ _ | exact postriderref22_Hops.mono _ _ _ _ | exact postriderref22_Marks.mono _ _ _ _ | exact LeO.refl _ | exact LeO.none _ | refine LeO.ite ?_ ?_ | refine LeO.bind ?_ (fun _ => ?_))
theorem postriderref22_Check.mono : ∀ a0 a1 a2 a3 k, LeO (postriderref22_Check.f k a0 a1 a2 a3) (postriderref22_Check.f (k + 1) a0 a1 a2 a3) := by
 intro a0 a1 a2 a3 k
 obtain ⟨ih0, ih1⟩ := postriderref22_Check.mono_l k
 unfold postriderref22_Check.f
 repeat' first
   | (with_reducible first | exact ih0 _ _ _ _ _ _ _ _ | exact ih1 _ _ _ _ _ _ _ _ _ _ _ _ | exact postriderref05_Normal.mono _ _ _ | exact postriderref22_Hops.mono _ _ _ _ | exact postriderref22_Marks.mono _ _ _ _ | exact LeO.refl _ | exact LeO.none _ | refine LeO.ite ?_ ?_ | refine LeO.bind ?_ (fun _ => ?_))
theorem postriderref22_Check.calls (k : Nat) (A0_0 : Option Addr) (c0_0 : Nat) (l0_0 : List (S79)) (a0_1 : ByteArray) (a0_2 : Bool) (A1 : Option Addr) (c1 : Nat) (l1 : List (S46)) (r1 : List (S46)) (r2 : List (S48)) (w : World) (hr0_0 : Kd.C k79 w A0_0 l0_0.length l0_0) (hc0_0 : l0_0.length ≤ c0_0) (hr1 : Kd.C k46 w A1 l1.length l1) (hc1 : l1.length ≤ c1) (h : postriderref22_Check.f k l0_0 a0_1 a0_2 l1 = some (r1, r2)) :
  Calls Tryz.prog 12 #[.agg #[.slice A0_0 l0_0.length c0_0, .string a0_1, .bool a0_2], .slice A1 l1.length c1] w fun e w' => ∃ v0_ v1_ : Value, e = .returned (.tuple #[v0_, v1_]) ∧ Kd.R k46 46 w' w.heap.size (fun _ => True) v0_ r1 ∧ Kd.R k48 48 w' w.heap.size (fun _ => True) v1_ r2 ∧ Below w.heap.size w w' := by
 have hu30 := Tryz.underlying30
 have hu46 := Tryz.underlying46
 have hu48 := Tryz.underlying48
 have HR0_0 := Aside0.mk hr0_0
 have HC0_0 := Aside0.mk hc0_0
 clear hr0_0 hc0_0
 have HR1 := Aside0.mk hr1
 have HC1 := Aside0.mk hc1
 clear hr1 hc1
 have HB := Aside0.mk (Below.refl w.heap.size w)
 have H : ((postriderref22_Marks.f k l0_0 a0_1 a0_2).bind fun t281 => (postriderref22_Check.l0 k l1 ([] : List (S46)) ([] : List (S48)) t281 0 l0_0 a0_1 a0_2)) = some (r1, r2) := h
 clear h
 obtain ⟨t281, A30, H⟩ := Option.bind_eq_some_iff.mp H
 replace H : (postriderref22_Check.l0 k l1 ([] : List (S46)) ([] : List (S48)) t281 0 l0_0 a0_1 a0_2) = some (r1, r2) := H
 have A3 := Aside0.mk A30
 clear A30
 have H' := Aside0.mk H
 clear H
 go_enter Tryz.func12, Tryz.ntmps12
 go_wp2_with (first | ((with_reducible refine gate_dst (N := 2) rfl ?_); refine box_event ?hg (N := 2) ?hd (cs := #[.slice A0_0 l0_0.length c0_0, .string a0_1, .bool a0_2]) (t := 30) ?hr ?_; (case hd => rfl); (case hg => rfl); (case hr => first | (go_simp; done) | (go_simp; rfl)); intro gb280 hg w4 hbox hb; have BK280 := Aside0.mk (hbox); have GW280 := Aside0.mk (gz hg : w.heap.size ≤ gb280); have GE280 := Aside0.mk (gz hg : w.heap.size ≤ gb280); replace HB := Aside0.mk (below_step bl hb); clear hb hbox hg; have hcz5_0 := cz BK280.out 0 (.slice A0_0 l0_0.length c0_0); have hcz5_1 := cz BK280.out 1 (.string a0_1); have hcz5_2 := cz BK280.out 2 (.bool a0_2); have hfz5_0 := blk_frozen BK280.out 0; have hfz5_1 := blk_frozen BK280.out 1; have hfz5_2 := blk_frozen BK280.out 2) | (go_at_call 18; (with_reducible refine (postriderref22_Marks.calls k _ _ l0_0 a0_1 a0_2 t281 _ ?side1 ?side2 A3.out).mono ?_); (case side1 => repeat (first | exact (Kd.C_below HR0_0.out HB.out) | (with_reducible refine Kd.C_alloc ?_ _) | (with_reducible refine Kd.C_drewN ?_ _) | (with_reducible refine Kd.C_drew ?_))); (case side2 => exact HC0_0.out); rintro e w6 ⟨v282, rfl, ho0, hb⟩; have HO283 := Aside0.mk (Kd.R_lower ho0 (below_size bl)); replace BK280 := Aside0.mk (kb BK280.out hb); replace HB := Aside0.mk (below_step bl hb); (try clear hb); (try clear hb2); (try clear hk); (try clear hi); (try clear ho0)))
 repeat (go_quiet (fail); try go_wp2_with (first | ((with_reducible refine gate_dst (N := 2) rfl ?_); refine box_event ?hg (N := 2) ?hd (cs := #[.slice A0_0 l0_0.length c0_0, .string a0_1, .bool a0_2]) (t := 30) ?hr ?_; (case hd => rfl); (case hg => rfl); (case hr => first | (go_simp; done) | (go_simp; rfl)); intro gb280 hg w4 hbox hb; have BK280 := Aside0.mk (hbox); have GW280 := Aside0.mk (gz hg : w.heap.size ≤ gb280); have GE280 := Aside0.mk (gz hg : w.heap.size ≤ gb280); replace HB := Aside0.mk (below_step bl hb); clear hb hbox hg; have hcz5_0 := cz BK280.out 0 (.slice A0_0 l0_0.length c0_0); have hcz5_1 := cz BK280.out 1 (.string a0_1); have hcz5_2 := cz BK280.out 2 (.bool a0_2); have hfz5_0 := blk_frozen BK280.out 0; have hfz5_1 := blk_frozen BK280.out 1; have hfz5_2 := blk_frozen BK280.out 2) | (go_at_call 18; (with_reducible refine (postriderref22_Marks.calls k _ _ l0_0 a0_1 a0_2 t281 _ ?side1 ?side2 A3.out).mono ?_); (case side1 => repeat (first | exact (Kd.C_below HR0_0.out HB.out) | (with_reducible refine Kd.C_alloc ?_ _) | (with_reducible refine Kd.C_drewN ?_ _) | (with_reducible refine Kd.C_drew ?_))); (case side2 => exact HC0_0.out); rintro e w6 ⟨v282, rfl, ho0, hb⟩; have HO283 := Aside0.mk (Kd.R_lower ho0 (below_size bl)); replace BK280 := Aside0.mk (kb BK280.out hb); replace HB := Aside0.mk (below_step bl hb); (try clear hb); (try clear hb2); (try clear hk); (try clear hi); (try clear ho0))))
 go_loopg [6, 7, 9] k (fun kq v6 v7 v9 w' => ∃ (x6_1 : List (S46)) (x7_1 : List (S48)) (x9_1 : Int), v9 = .int .i64 x9_1 ∧ Aside0 (postriderref22_Check.l0 kq l1 x6_1 x7_1 t281 x9_1 l0_0 a0_1 a0_2 = some (r1, r2)) ∧ Aside0 (kq ≤ k) ∧ Aside0 (Kd.R k46 46 w' w.heap.size (fun k_ => some k_ ≠ (v282 : Value).ownBlock) v6 x6_1) ∧ Aside0 (Kd.R k48 48 w' w.heap.size (fun _ => True) v7 x7_1) ∧ Aside0 (Kd.R k46 46 w' w.heap.size (fun k_ => some k_ ≠ (v6 : Value).ownBlock) v282 t281) ∧ Aside0 (w'.heap[gb280]? = some (.cells #[(.slice A0_0 l0_0.length c0_0), .string a0_1, .bool a0_2] 30 (0, 0))) ∧ Aside0 (Below w.heap.size w w'))
 case atStart => exact ⟨(([] : List (S46))), (([] : List (S48))), (0), rs, H', ⟨Nat.le_refl _⟩, ⟨by first | exact Kd.R_nil _ _ _ _ _ | exact Kd.N_nil _ _ _ _ _ | exact Kd.V_nil _ _ _ _ _ | exact Kd.Q_nil _ _ _ _ _ | exact Kd.S_nil _ _ _ _ _⟩, ⟨by first | exact Kd.R_nil _ _ _ _ _ | exact Kd.N_nil _ _ _ _ _ | exact Kd.V_nil _ _ _ _ _ | exact Kd.Q_nil _ _ _ _ _ | exact Kd.S_nil _ _ _ _ _⟩, ⟨by (with_reducible repeat (first | apply Kd.R_alloc | apply Kd.R_drewN | apply Kd.R_drew)); exact Kd.R_mono HO283.out (fun _ hk => (by simp [Value.ownBlock]))⟩, ⟨bk BK280.out⟩, ⟨bl⟩⟩
 case round =>
  clear H'
  try clear c1
  try clear p2
  try clear hcz5_0
  try clear hcz5_1
  try clear hcz5_2
  try clear hfz5_0
  try clear hfz5_1
  try clear hfz5_2
  obtain ⟨x6_1, x7_1, x9_1, rfl, HA, HK1, HO_6, HO_7, HO_8, BK280, HB⟩ := hrel
  cases gk with
  | zero => exact absurd HA.out (by simp [postriderref22_Check.l0])
  | succ k1 =>
   have H := HA.out
   clear HA
   simp only [postriderref22_Check.l0] at H
   by_cases c7 : x9_1 < (l1.length : Int)
   ·rw [if_pos c7] at H
    have c7b0 : decide (x9_1 < (l1.length : Int)) = true := decide_eq_true c7
    clear c7
    by_cases c8 : 0 ≤ x9_1
    rotate_left
    ·rw [if_neg c8] at H
     exact ab H
    rw [if_pos c8] at H
    have c8b0 : decide (0 ≤ x9_1) = true := decide_eq_true c8
    clear c8
    obtain ⟨⟨t285, t286⟩, A90, H⟩ := Option.bind_eq_some_iff.mp H
    replace H : (postriderref22_Check.l1 k1 l1 x6_1 x7_1 t281 x9_1 false 0 l0_0 a0_1 a0_2 t285 t286) = some (r1, r2) := H
    have A9 := Aside0.mk A90
    clear A90
    have H' := Aside0.mk H
    clear H
    have p284 : 0 ≤ (x9_1 : Int) := od
    have q284 : x9_1 < (l1.length : Int) := od
    obtain ⟨ad284, e284, hx284_0, hx284_1⟩ := at_T46 HR1.out x9_1 p284 q284
    cases e284
    replace hx284_0 := (HB.out.cell (World.block_lt_of_cell? w _ hx284_0)).trans hx284_0
    replace hx284_1 := (HB.out.cell (World.block_lt_of_cell? w _ hx284_1)).trans hx284_1
    replace p284 := eq_true p284
    replace q284 := eq_true q284
    go_wp2_with (first | (go_at_call 41; (with_reducible refine (postriderref05_Normal.calls k1 ((rd_T46 l1 x9_1).f0) ((rd_T46 l1 x9_1).f1) t285 t286 _ A9.out).mono ?_); rintro e w10 ⟨rfl, hb⟩; replace HO_6 := Aside0.mk (Kd.R_below (kr HO_6.out) hb); replace HO_7 := Aside0.mk (Kd.R_below (kr HO_7.out) hb); replace HO_8 := Aside0.mk (Kd.R_below (kr HO_8.out) hb); replace BK280 := Aside0.mk (kb BK280.out hb); replace HB := Aside0.mk (below_step bl hb); (try clear hb); (try clear hb2); (try clear hk); (try clear hi)) | ((with_reducible refine gate_dst (N := 10) rfl ?_); refine box_event ?hg (N := 10) ?hd (cs := #[.string (⟨#[]⟩ : ByteArray), .string (⟨#[]⟩ : ByteArray)]) (t := 46) ?hr ?_; (case hd => rfl); (case hg => rfl); (case hr => first | (go_simp; done) | (go_simp; rfl)); intro gb287 hg w11 hbox hb; replace HO_6 := Aside0.mk (Kd.R_below (Kd.R_elderB (kr HO_6.out) gb287 (Nat.le_of_eq hg.symm)) hb); replace HO_7 := Aside0.mk (Kd.R_below (kr HO_7.out) hb); replace HO_8 := Aside0.mk (Kd.R_below (Kd.R_elderB (kr HO_8.out) gb287 (Nat.le_of_eq hg.symm)) hb); have BK287 := Aside0.mk (hbox); have GW287 := Aside0.mk (gz hg : w.heap.size ≤ gb287); have GE287 := Aside0.mk (gz hg : w.heap.size ≤ gb287); replace HB := Aside0.mk (below_step bl hb); have NB280_287 := Aside0.mk (nl hg BK280.out : gb280 ≠ gb287); have NB287_280 := Aside0.mk (ng hg BK280.out : gb287 ≠ gb280); replace BK280 := Aside0.mk (kb BK280.out hb); clear hb hbox hg; have hnb12 := NB287_280.out; have hnc12 := NB280_287.out; have hcz13_0 := cz BK287.out 0 (.string (⟨#[]⟩ : ByteArray)); have hcz13_1 := cz BK287.out 1 (.string (⟨#[]⟩ : ByteArray)); have hfz13_0 := blk_frozen BK287.out 0; have hfz13_1 := blk_frozen BK287.out 1))
    repeat (go_quiet (fail); try go_wp2_with (first | (go_at_call 41; (with_reducible refine (postriderref05_Normal.calls k1 ((rd_T46 l1 x9_1).f0) ((rd_T46 l1 x9_1).f1) t285 t286 _ A9.out).mono ?_); rintro e w10 ⟨rfl, hb⟩; replace HO_6 := Aside0.mk (Kd.R_below (kr HO_6.out) hb); replace HO_7 := Aside0.mk (Kd.R_below (kr HO_7.out) hb); replace HO_8 := Aside0.mk (Kd.R_below (kr HO_8.out) hb); replace BK280 := Aside0.mk (kb BK280.out hb); replace HB := Aside0.mk (below_step bl hb); (try clear hb); (try clear hb2); (try clear hk); (try clear hi)) | ((with_reducible refine gate_dst (N := 10) rfl ?_); refine box_event ?hg (N := 10) ?hd (cs := #[.string (⟨#[]⟩ : ByteArray), .string (⟨#[]⟩ : ByteArray)]) (t := 46) ?hr ?_; (case hd => rfl); (case hg => rfl); (case hr => first | (go_simp; done) | (go_simp; rfl)); intro gb287 hg w11 hbox hb; replace HO_6 := Aside0.mk (Kd.R_below (Kd.R_elderB (kr HO_6.out) gb287 (Nat.le_of_eq hg.symm)) hb); replace HO_7 := Aside0.mk (Kd.R_below (kr HO_7.out) hb); replace HO_8 := Aside0.mk (Kd.R_below (Kd.R_elderB (kr HO_8.out) gb287 (Nat.le_of_eq hg.symm)) hb); have BK287 := Aside0.mk (hbox); have GW287 := Aside0.mk (gz hg : w.heap.size ≤ gb287); have GE287 := Aside0.mk (gz hg : w.heap.size ≤ gb287); replace HB := Aside0.mk (below_step bl hb); have NB280_287 := Aside0.mk (nl hg BK280.out : gb280 ≠ gb287); have NB287_280 := Aside0.mk (ng hg BK280.out : gb287 ≠ gb280); replace BK280 := Aside0.mk (kb BK280.out hb); clear hb hbox hg; have hnb12 := NB287_280.out; have hnc12 := NB280_287.out; have hcz13_0 := cz BK287.out 0 (.string (⟨#[]⟩ : ByteArray)); have hcz13_1 := cz BK287.out 1 (.string (⟨#[]⟩ : ByteArray)); have hfz13_0 := blk_frozen BK287.out 0; have hfz13_1 := blk_frozen BK287.out 1)))
    go_loopg [11, 12] k1 (fun kq v11 v12 w' => ∃ (x11_2 : Bool) (x12_2 : Int), v11 = .bool x11_2 ∧ v12 = .int .i64 x12_2 ∧ Aside0 (postriderref22_Check.l1 kq l1 x6_1 x7_1 t281 x9_1 x11_2 x12_2 l0_0 a0_1 a0_2 t285 t286 = some (r1, r2)) ∧ Aside0 (kq ≤ k1) ∧ Aside0 (Kd.R k46 46 w' w.heap.size (fun k_ => some k_ ≠ (v282 : Value).ownBlock ∧ k_ ≠ gb287) u6 x6_1) ∧ Aside0 (Kd.R k48 48 w' w.heap.size (fun _ => True) u7 x7_1) ∧ Aside0 (Kd.R k46 46 w' w.heap.size (fun k_ => some k_ ≠ (u6 : Value).ownBlock ∧ k_ ≠ gb287) v282 t281) ∧ Aside0 (w'.heap[gb280]? = some (.cells #[(.slice A0_0 l0_0.length c0_0), .string a0_1, .bool a0_2] 30 (0, 0))) ∧ Aside0 (w'.heap[gb287]? = some (.cells #[.string t285, .string t286] 46 (0, 0))) ∧ Aside0 (Below w.heap.size w w'))
    case atStart => exact ⟨(false), (0), rs, rs, H', ⟨Nat.le_refl _⟩, ⟨by (with_reducible repeat (first | apply Kd.R_alloc | apply Kd.R_drewN | apply Kd.R_drew)); exact Kd.R_mono (Kd.R_far (p := ⟨gb287, 1, none⟩) (Kd.R_far (p := ⟨gb287, 0, none⟩) (Kd.R_mono HO_6.out (fun k_ hk => (⟨hk, hk.2⟩ : _ ∧ k_ ≠ gb287))) (fun _ hk => hk.2) (.string t285)) (fun _ hk => hk.2) (.string t286)) (fun _ hk => ⟨hk.1.1, hk.1.2⟩)⟩, ⟨by (with_reducible repeat (first | apply Kd.R_alloc | apply Kd.R_drewN | apply Kd.R_drew)); exact Kd.R_mono (Kd.R_far (p := ⟨gb287, 1, none⟩) (Kd.R_far (p := ⟨gb287, 0, none⟩) (Kd.R_types HO_7.out BK287.out (by decide)) (fun _ hk => hk.2) (.string t285)) (fun _ hk => hk.2) (.string t286)) (fun _ hk => trivial)⟩, ⟨by (with_reducible repeat (first | apply Kd.R_alloc | apply Kd.R_drewN | apply Kd.R_drew)); exact Kd.R_mono (Kd.R_far (p := ⟨gb287, 1, none⟩) (Kd.R_far (p := ⟨gb287, 0, none⟩) (Kd.R_mono HO_8.out (fun k_ hk => (⟨hk, hk.2⟩ : _ ∧ k_ ≠ gb287))) (fun _ hk => hk.2) (.string t285)) (fun _ hk => hk.2) (.string t286)) (fun _ hk => ⟨hk.1.1, hk.1.2⟩)⟩, ⟨bk BK280.out⟩, ⟨by (with_reducible repeat (first | refine blk_drewN ?_ _ | refine blk_drew ?_ | refine blk_alloc ?_ _)); refine blk_put (cs := #[.string t285, .string (⟨#[]⟩ : ByteArray)]) ?_ 1 _ rfl; (with_reducible repeat (first | refine blk_drewN ?_ _ | refine blk_drew ?_ | refine blk_alloc ?_ _)); refine blk_put (cs := #[.string (⟨#[]⟩ : ByteArray), .string (⟨#[]⟩ : ByteArray)]) ?_ 0 _ rfl; (with_reducible repeat (first | refine blk_drewN ?_ _ | refine blk_drew ?_ | refine blk_alloc ?_ _)); exact BK287.out⟩, ⟨bl⟩⟩
    case round =>
     clear H'
     try clear c1
     try clear p2
     try clear q2
     try clear hx2
     try clear c7
     try clear c7b0
     try clear c8
     try clear c8b0
     try clear c12
     try clear hcz13_0
     try clear hcz13_1
     try clear hcz5_0
     try clear hcz5_1
     try clear hcz5_2
     try clear hfz13_0
     try clear hfz13_1
     try clear hfz5_0
     try clear hfz5_1
     try clear hfz5_2
     try clear hx284_0
     try clear hx284_1
     try clear p2
     try clear p284
     try clear q284
     obtain ⟨x11_2, x12_2, rfl, rfl, HA, HK2, HO_6, HO_7, HO_8, BK280, BK287, HB⟩ := hrel
     cases gk with
     | zero => exact absurd HA.out (by simp [postriderref22_Check.l1])
     | succ k2 =>
      have H := HA.out
      clear HA
      simp only [postriderref22_Check.l1] at H
      by_cases c14 : x12_2 < (t281.length : Int)
      ·rw [if_pos c14] at H
       have c14b0 : decide (x12_2 < (t281.length : Int)) = true := decide_eq_true c14
       clear c14
       by_cases c15 : 0 ≤ x12_2
       rotate_left
       ·rw [if_neg c15] at H
        exact ab H
       rw [if_pos c15] at H
       have c15b0 : decide (0 ≤ x12_2) = true := decide_eq_true c15
       clear c15
       by_cases c16 : ((((rd_T46 t281 x12_2).f0).toList) == t285.toList && ((((rd_T46 t281 x12_2).f1).toList) == t286.toList)) = true
       ·rw [if_pos c16] at H
        have c16b0 : ((((rd_T46 t281 x12_2).f0).toList) == t285.toList && ((((rd_T46 t281 x12_2).f1).toList) == t286.toList)) = true := c16
        (try (have c16b1 : decide ((((rd_T46 t281 x12_2).f0).toList) = t285.toList && ((((rd_T46 t281 x12_2).f1).toList) == t286.toList)) = true := by simpa using c16))
        (try (have c16b2 : ((((rd_T46 t281 x12_2).f0).toList) == t285.toList && ((((rd_T46 t281 x12_2).f1).toList) == t286.toList)) = true := by simpa using c16))
        clear c16
        have H' := Aside0.mk H
        clear H
        obtain ⟨Ao17, co17, eo17⟩ := Kd.R_slice HO_8.out
        subst eo17
        have p288 : 0 ≤ (x12_2 : Int) := od
        have q288 : x12_2 < (t281.length : Int) := od
        obtain ⟨ad288, e288, hx288_0, hx288_1⟩ := at_T46 (Kd.R_reads' HO_8.out).2.2 x12_2 p288 q288
        cases e288
        replace p288 := eq_true p288
        replace q288 := eq_true q288
        have hnb18 := NB287_280.out
        have hnc18 := NB280_287.out
        have hcz19_0 := cz BK287.out 0 (.string t285)
        have hcz19_1 := cz BK287.out 1 (.string t286)
        have hfz19_0 := blk_frozen BK287.out 0
        have hfz19_1 := blk_frozen BK287.out 1
        go_wp2
        repeat (go_quiet (fail); try go_wp2)
        go_roundg k2
        case measure => have := HK1.out; have := HK2.out; omega
        case rel => exact ⟨(true), (wrap64 (x12_2 + 1)), rs, rs, H', ⟨by have := HK1.out; have := HK2.out; omega⟩, ⟨kr HO_6.out⟩, ⟨kr HO_7.out⟩, ⟨kr HO_8.out⟩, ⟨bk BK280.out⟩, ⟨bk BK287.out⟩, ⟨bl⟩⟩
       ·rw [if_neg c16] at H
        have c16b0 : ((((rd_T46 t281 x12_2).f0).toList) == t285.toList && ((((rd_T46 t281 x12_2).f1).toList) == t286.toList)) = false := by simpa using c16
        (try (have c16b1 : decide ((((rd_T46 t281 x12_2).f0).toList) = t285.toList && ((((rd_T46 t281 x12_2).f1).toList) == t286.toList)) = false := by simpa using c16))
        (try (have c16b2 : ((((rd_T46 t281 x12_2).f0).toList) == t285.toList && ((((rd_T46 t281 x12_2).f1).toList) == t286.toList)) = false := by simpa using c16))
        (try (have c16b3 : ¬ ((((rd_T46 t281 x12_2).f0).toList) = t285.toList && ((((rd_T46 t281 x12_2).f1).toList) == t286.toList)) := by simpa using c16))
        clear c16
        have H' := Aside0.mk H
        clear H
        obtain ⟨Ao20, co20, eo20⟩ := Kd.R_slice HO_8.out
        subst eo20
        have p288 : 0 ≤ (x12_2 : Int) := od
        have q288 : x12_2 < (t281.length : Int) := od
        obtain ⟨ad288, e288, hx288_0, hx288_1⟩ := at_T46 (Kd.R_reads' HO_8.out).2.2 x12_2 p288 q288
        cases e288
        replace p288 := eq_true p288
        replace q288 := eq_true q288
        have hnb21 := NB287_280.out
        have hnc21 := NB280_287.out
        have hcz22_0 := cz BK287.out 0 (.string t285)
        have hcz22_1 := cz BK287.out 1 (.string t286)
        have hfz22_0 := blk_frozen BK287.out 0
        have hfz22_1 := blk_frozen BK287.out 1
        go_wp2
        repeat (go_quiet (fail); try go_wp2)
        go_roundg k2
        case measure => have := HK1.out; have := HK2.out; omega
        case rel => exact ⟨(x11_2), (wrap64 (x12_2 + 1)), rs, rs, H', ⟨by have := HK1.out; have := HK2.out; omega⟩, ⟨kr HO_6.out⟩, ⟨kr HO_7.out⟩, ⟨kr HO_8.out⟩, ⟨bk BK280.out⟩, ⟨bk BK287.out⟩, ⟨bl⟩⟩
      ·rw [if_neg c14] at H
       have c14b0 : decide (x12_2 < (t281.length : Int)) = false := decide_eq_false c14
       clear c14
       obtain ⟨t289, A230, H⟩ := Option.bind_eq_some_iff.mp H
       replace H : (if t289 > 25 then (if 0 ≤ x9_1 then (if x9_1 < (l1.length : Int) then (if x7_1.length < 2513169434916 then (postriderref22_Check.l0 k2 l1 x6_1 (x7_1 ++ [(⟨(⟨(rd_T46 l1 x9_1).f0, (rd_T46 l1 x9_1).f1⟩ : S46), 554, (⟨#[116, 111, 111, 32, 109, 97, 110, 121, 32, 104, 111, 112, 115]⟩ : ByteArray)⟩ : S48)]) t281 (wrap64 (x9_1 + 1)) l0_0 a0_1 a0_2) else (none)) else (none)) else (none)) else (if x11_2 = true then (if 0 ≤ x9_1 then (if x9_1 < (l1.length : Int) then (if x7_1.length < 2513169434916 then (postriderref22_Check.l0 k2 l1 x6_1 (x7_1 ++ [(⟨(⟨(rd_T46 l1 x9_1).f0, (rd_T46 l1 x9_1).f1⟩ : S46), 554, (⟨#[109, 97, 105, 108, 32, 108, 111, 111, 112]⟩ : ByteArray)⟩ : S48)]) t281 (wrap64 (x9_1 + 1)) l0_0 a0_1 a0_2) else (none)) else (none)) else (none)) else (if 0 ≤ x9_1 then (if x9_1 < (l1.length : Int) then (if x6_1.length < 4398046511104 then (postriderref22_Check.l0 k2 l1 (x6_1 ++ [(⟨(rd_T46 l1 x9_1).f0, (rd_T46 l1 x9_1).f1⟩ : S46)]) x7_1 t281 (wrap64 (x9_1 + 1)) l0_0 a0_1 a0_2) else (none)) else (none)) else (none)))) = some (r1, r2) := H
       have A23 := Aside0.mk A230
       clear A230
       by_cases c24 : t289 > 25
       ·rw [if_pos c24] at H
        have c24b0 : decide (25 < t289) = true := decide_eq_true c24
        clear c24
        by_cases c25 : 0 ≤ x9_1
        rotate_left
        ·rw [if_neg c25] at H
         exact ab H
        rw [if_pos c25] at H
        have c25b0 : decide (0 ≤ x9_1) = true := decide_eq_true c25
        clear c25
        by_cases c26 : x9_1 < (l1.length : Int)
        rotate_left
        ·rw [if_neg c26] at H
         exact ab H
        rw [if_pos c26] at H
        have c26b0 : decide (x9_1 < (l1.length : Int)) = true := decide_eq_true c26
        clear c26
        by_cases c27 : x7_1.length < 2513169434916
        rotate_left
        ·rw [if_neg c27] at H
         exact ab H
        rw [if_pos c27] at H
        have LMc27 := Aside0.mk c27
        clear c27
        obtain ⟨y291, hy291⟩ : ∃ y_ : List (S48), y_ = (x7_1 ++ [(⟨(⟨(rd_T46 l1 x9_1).f0, (rd_T46 l1 x9_1).f1⟩ : S46), 554, (⟨#[116, 111, 111, 32, 109, 97, 110, 121, 32, 104, 111, 112, 115]⟩ : ByteArray)⟩ : S48)]) := ⟨_, rfl⟩
        replace H : (postriderref22_Check.l0 k2 l1 x6_1 y291 t281 (wrap64 (x9_1 + 1)) l0_0 a0_1 a0_2) = some (r1, r2) := by first | (rw [hy291]; with_reducible exact H) | (have H2_ := (Option.bind_some _ _).symm.trans H; rw [hy291]; with_reducible exact H2_) | (have H2_ := (Option.bind_some _ _).symm.trans H; with_reducible exact H2_) | with_reducible exact H | (rw [hy291]; exact H) | exact H
        have Ny291 := Aside0.mk hy291
        clear hy291
        have H' := Aside0.mk H
        clear H
        obtain ⟨Ao28, co28, eo28⟩ := Kd.R_slice HO_8.out
        subst eo28
        have hnb29 := NB280_287.out
        have hnc29 := NB287_280.out
        have hcz30_0 := cz BK280.out 0 (.slice A0_0 l0_0.length c0_0)
        have hcz30_1 := cz BK280.out 1 (.string a0_1)
        have hcz30_2 := cz BK280.out 2 (.bool a0_2)
        have hfz30_0 := blk_frozen BK280.out 0
        have hfz30_1 := blk_frozen BK280.out 1
        have hfz30_2 := blk_frozen BK280.out 2
        go_wp2_with (first | (go_at_call 16; (with_reducible refine (postriderref22_Hops.calls k2 _ _ l0_0 a0_1 a0_2 t289 _ ?side1 ?side2 A23.out).mono ?_); (case side1 => repeat (first | exact (Kd.C_below HR0_0.out HB.out) | (with_reducible refine Kd.C_alloc ?_ _) | (with_reducible refine Kd.C_drewN ?_ _) | (with_reducible refine Kd.C_drew ?_))); (case side2 => exact HC0_0.out); rintro e w31 ⟨rfl, hb⟩; replace HO_6 := Aside0.mk (Kd.R_below (kr HO_6.out) hb); replace HO_7 := Aside0.mk (Kd.R_below (kr HO_7.out) hb); replace HO_8 := Aside0.mk (Kd.R_below (kr HO_8.out) hb); replace BK280 := Aside0.mk (kb BK280.out hb); replace BK287 := Aside0.mk (kb BK287.out hb); replace HB := Aside0.mk (below_step bl hb); (try clear hb); (try clear hb2); (try clear hk); (try clear hi); have p290 : 0 ≤ (x9_1 : Int) := od; have q290 : x9_1 < (l1.length : Int) := od; obtain ⟨ad290, e290, hx290_0, hx290_1⟩ := at_T46 HR1.out x9_1 p290 q290; obtain rfl : ad284 = ad290 := (by injection e290); replace hx290_0 := (HB.out.cell (World.block_lt_of_cell? w _ hx290_0)).trans hx290_0; replace hx290_1 := (HB.out.cell (World.block_lt_of_cell? w _ hx290_1)).trans hx290_1; replace p290 := eq_true p290; replace q290 := eq_true q290) | ((with_reducible refine gate_builtin (b := .append) (xs := #[.tmp 41, .tmp 47]) rfl ?_); at_builtin; refine Kd.R_append k48 (w0 := w) w.heap.size rfl (.tmp 41) (.tmp 47) 36 48 (.agg #[(.string ⟨#[]⟩), (.string ⟨#[]⟩), (.int .i64 0), (.string ⟨#[]⟩)]) 56 rfl Tryz.underlying36 info48 rfl (by decide) (by omega) u7 x7_1 (⟨(⟨(rd_T46 l1 x9_1).f0, (rd_T46 l1 x9_1).f1⟩ : S46), 554, (⟨#[116, 111, 111, 32, 109, 97, 110, 121, 32, 104, 111, 112, 115]⟩ : ByteArray)⟩ : S48) [.string ((rd_T46 l1 x9_1).f0), .string ((rd_T46 l1 x9_1).f1), .int .i64 554, .string (⟨#[116, 111, 111, 32, 109, 97, 110, 121, 32, 104, 111, 112, 115]⟩ : ByteArray)] (fun _ => True) (fun _ => False) rfl rfl ?aP (fun _ hk => hk.elim) ?aF ?aO ?aB ?aS ?aL ?_; (case aP => exact k48_mkM _ _ _ (⟨(⟨(rd_T46 l1 x9_1).f0, (rd_T46 l1 x9_1).f1⟩ : S46), 554, (⟨#[116, 111, 111, 32, 109, 97, 110, 121, 32, 104, 111, 112, 115]⟩ : ByteArray)⟩ : S48)); (case aB => exact bl); (case aF => exact (fun _ _ => trivial)); (case aO => exact (kr HO_7.out)); (case aS => exact (below_size bl)); (case aL => have := LMc27.out; omega); intro v292 w32 ho hb hg hat; rw [← Ny291.out] at ho; replace HO_6 := Aside0.mk (Kd.R_over' (kr HO_6.out) (Kd.R_typed (kr HO_7.out)) (by decide) hg); replace HO_8 := Aside0.mk (Kd.R_over' (kr HO_8.out) (Kd.R_typed (kr HO_7.out)) (by decide) hg); replace BK280 := Aside0.mk (blk_grown (g := gb280) (o := .cells #[.slice A0_0 l0_0.length c0_0, .string a0_1, .bool a0_2] 30 (0, 0)) (bk BK280.out) hg (Kd.R_ne HO_7.out BK280.out (by decide))); replace BK287 := Aside0.mk (blk_grown (g := gb287) (o := .cells #[.string t285, .string t286] 46 (0, 0)) (bk BK287.out) hg (Kd.R_ne HO_7.out BK287.out (by decide))); replace HB := Aside0.mk (hb); have HO293 := Aside0.mk (ho); clear HO_7 ho hb hg hat))
        repeat (go_quiet (fail); try go_wp2_with (first | (go_at_call 16; (with_reducible refine (postriderref22_Hops.calls k2 _ _ l0_0 a0_1 a0_2 t289 _ ?side1 ?side2 A23.out).mono ?_); (case side1 => repeat (first | exact (Kd.C_below HR0_0.out HB.out) | (with_reducible refine Kd.C_alloc ?_ _) | (with_reducible refine Kd.C_drewN ?_ _) | (with_reducible refine Kd.C_drew ?_))); (case side2 => exact HC0_0.out); rintro e w31 ⟨rfl, hb⟩; replace HO_6 := Aside0.mk (Kd.R_below (kr HO_6.out) hb); replace HO_7 := Aside0.mk (Kd.R_below (kr HO_7.out) hb); replace HO_8 := Aside0.mk (Kd.R_below (kr HO_8.out) hb); replace BK280 := Aside0.mk (kb BK280.out hb); replace BK287 := Aside0.mk (kb BK287.out hb); replace HB := Aside0.mk (below_step bl hb); (try clear hb); (try clear hb2); (try clear hk); (try clear hi); have p290 : 0 ≤ (x9_1 : Int) := od; have q290 : x9_1 < (l1.length : Int) := od; obtain ⟨ad290, e290, hx290_0, hx290_1⟩ := at_T46 HR1.out x9_1 p290 q290; obtain rfl : ad284 = ad290 := (by injection e290); replace hx290_0 := (HB.out.cell (World.block_lt_of_cell? w _ hx290_0)).trans hx290_0; replace hx290_1 := (HB.out.cell (World.block_lt_of_cell? w _ hx290_1)).trans hx290_1; replace p290 := eq_true p290; replace q290 := eq_true q290) | ((with_reducible refine gate_builtin (b := .append) (xs := #[.tmp 41, .tmp 47]) rfl ?_); at_builtin; refine Kd.R_append k48 (w0 := w) w.heap.size rfl (.tmp 41) (.tmp 47) 36 48 (.agg #[(.string ⟨#[]⟩), (.string ⟨#[]⟩), (.int .i64 0), (.string ⟨#[]⟩)]) 56 rfl Tryz.underlying36 info48 rfl (by decide) (by omega) u7 x7_1 (⟨(⟨(rd_T46 l1 x9_1).f0, (rd_T46 l1 x9_1).f1⟩ : S46), 554, (⟨#[116, 111, 111, 32, 109, 97, 110, 121, 32, 104, 111, 112, 115]⟩ : ByteArray)⟩ : S48) [.string ((rd_T46 l1 x9_1).f0), .string ((rd_T46 l1 x9_1).f1), .int .i64 554, .string (⟨#[116, 111, 111, 32, 109, 97, 110, 121, 32, 104, 111, 112, 115]⟩ : ByteArray)] (fun _ => True) (fun _ => False) rfl rfl ?aP (fun _ hk => hk.elim) ?aF ?aO ?aB ?aS ?aL ?_; (case aP => exact k48_mkM _ _ _ (⟨(⟨(rd_T46 l1 x9_1).f0, (rd_T46 l1 x9_1).f1⟩ : S46), 554, (⟨#[116, 111, 111, 32, 109, 97, 110, 121, 32, 104, 111, 112, 115]⟩ : ByteArray)⟩ : S48)); (case aB => exact bl); (case aF => exact (fun _ _ => trivial)); (case aO => exact (kr HO_7.out)); (case aS => exact (below_size bl)); (case aL => have := LMc27.out; omega); intro v292 w32 ho hb hg hat; rw [← Ny291.out] at ho; replace HO_6 := Aside0.mk (Kd.R_over' (kr HO_6.out) (Kd.R_typed (kr HO_7.out)) (by decide) hg); replace HO_8 := Aside0.mk (Kd.R_over' (kr HO_8.out) (Kd.R_typed (kr HO_7.out)) (by decide) hg); replace BK280 := Aside0.mk (blk_grown (g := gb280) (o := .cells #[.slice A0_0 l0_0.length c0_0, .string a0_1, .bool a0_2] 30 (0, 0)) (bk BK280.out) hg (Kd.R_ne HO_7.out BK280.out (by decide))); replace BK287 := Aside0.mk (blk_grown (g := gb287) (o := .cells #[.string t285, .string t286] 46 (0, 0)) (bk BK287.out) hg (Kd.R_ne HO_7.out BK287.out (by decide))); replace HB := Aside0.mk (hb); have HO293 := Aside0.mk (ho); clear HO_7 ho hb hg hat)))
        go_roundg k2
        case measure => have := HK1.out; have := HK2.out; omega
        case rel => exact ⟨(x6_1), (y291), (wrap64 (x9_1 + 1)), rs, H', ⟨by have := HK1.out; have := HK2.out; omega⟩, ⟨by (with_reducible repeat (first | apply Kd.R_alloc | apply Kd.R_drewN | apply Kd.R_drew)); exact Kd.R_mono HO_6.out (fun _ hk => hk.1)⟩, ⟨kr HO293.out⟩, ⟨by (with_reducible repeat (first | apply Kd.R_alloc | apply Kd.R_drewN | apply Kd.R_drew)); exact Kd.R_mono HO_8.out (fun _ hk => hk.1)⟩, ⟨bk BK280.out⟩, ⟨bl⟩⟩
       ·rw [if_neg c24] at H
        have c24b0 : decide (25 < t289) = false := decide_eq_false c24
        clear c24
        by_cases c33 : x11_2 = true
        ·subst c33
         replace H : (if 0 ≤ x9_1 then (if x9_1 < (l1.length : Int) then (if x7_1.length < 2513169434916 then (postriderref22_Check.l0 k2 l1 x6_1 (x7_1 ++ [(⟨(⟨(rd_T46 l1 x9_1).f0, (rd_T46 l1 x9_1).f1⟩ : S46), 554, (⟨#[109, 97, 105, 108, 32, 108, 111, 111, 112]⟩ : ByteArray)⟩ : S48)]) t281 (wrap64 (x9_1 + 1)) l0_0 a0_1 a0_2) else (none)) else (none)) else (none)) = some (r1, r2) := by rw [if_pos rfl] at H; exact H
         by_cases c34 : 0 ≤ x9_1
         rotate_left
         ·rw [if_neg c34] at H
          exact ab H
         rw [if_pos c34] at H
         have c34b0 : decide (0 ≤ x9_1) = true := decide_eq_true c34
         clear c34
         by_cases c35 : x9_1 < (l1.length : Int)
         rotate_left
         ·rw [if_neg c35] at H
          exact ab H
         rw [if_pos c35] at H
         have c35b0 : decide (x9_1 < (l1.length : Int)) = true := decide_eq_true c35
         clear c35
         by_cases c36 : x7_1.length < 2513169434916
         rotate_left
         ·rw [if_neg c36] at H
          exact ab H
         rw [if_pos c36] at H
         have LMc36 := Aside0.mk c36
         clear c36
         obtain ⟨y295, hy295⟩ : ∃ y_ : List (S48), y_ = (x7_1 ++ [(⟨(⟨(rd_T46 l1 x9_1).f0, (rd_T46 l1 x9_1).f1⟩ : S46), 554, (⟨#[109, 97, 105, 108, 32, 108, 111, 111, 112]⟩ : ByteArray)⟩ : S48)]) := ⟨_, rfl⟩
         replace H : (postriderref22_Check.l0 k2 l1 x6_1 y295 t281 (wrap64 (x9_1 + 1)) l0_0 a0_1 a0_2) = some (r1, r2) := by first | (rw [hy295]; with_reducible exact H) | (have H2_ := (Option.bind_some _ _).symm.trans H; rw [hy295]; with_reducible exact H2_) | (have H2_ := (Option.bind_some _ _).symm.trans H; with_reducible exact H2_) | with_reducible exact H | (rw [hy295]; exact H) | exact H
         have Ny295 := Aside0.mk hy295
         clear hy295
         have H' := Aside0.mk H
         clear H
         obtain ⟨Ao37, co37, eo37⟩ := Kd.R_slice HO_8.out
         subst eo37
         have hnb38 := NB280_287.out
         have hnc38 := NB287_280.out
         have hcz39_0 := cz BK280.out 0 (.slice A0_0 l0_0.length c0_0)
         have hcz39_1 := cz BK280.out 1 (.string a0_1)
         have hcz39_2 := cz BK280.out 2 (.bool a0_2)
         have hfz39_0 := blk_frozen BK280.out 0
         have hfz39_1 := blk_frozen BK280.out 1
         have hfz39_2 := blk_frozen BK280.out 2
         go_wp2_with (first | (go_at_call 16; (with_reducible refine (postriderref22_Hops.calls k2 _ _ l0_0 a0_1 a0_2 t289 _ ?side1 ?side2 A23.out).mono ?_); (case side1 => repeat (first | exact (Kd.C_below HR0_0.out HB.out) | (with_reducible refine Kd.C_alloc ?_ _) | (with_reducible refine Kd.C_drewN ?_ _) | (with_reducible refine Kd.C_drew ?_))); (case side2 => exact HC0_0.out); rintro e w40 ⟨rfl, hb⟩; replace HO_6 := Aside0.mk (Kd.R_below (kr HO_6.out) hb); replace HO_7 := Aside0.mk (Kd.R_below (kr HO_7.out) hb); replace HO_8 := Aside0.mk (Kd.R_below (kr HO_8.out) hb); replace BK280 := Aside0.mk (kb BK280.out hb); replace BK287 := Aside0.mk (kb BK287.out hb); replace HB := Aside0.mk (below_step bl hb); (try clear hb); (try clear hb2); (try clear hk); (try clear hi); have p294 : 0 ≤ (x9_1 : Int) := od; have q294 : x9_1 < (l1.length : Int) := od; obtain ⟨ad294, e294, hx294_0, hx294_1⟩ := at_T46 HR1.out x9_1 p294 q294; obtain rfl : ad284 = ad294 := (by injection e294); replace hx294_0 := (HB.out.cell (World.block_lt_of_cell? w _ hx294_0)).trans hx294_0; replace hx294_1 := (HB.out.cell (World.block_lt_of_cell? w _ hx294_1)).trans hx294_1; replace p294 := eq_true p294; replace q294 := eq_true q294) | ((with_reducible refine gate_builtin (b := .append) (xs := #[.tmp 50, .tmp 56]) rfl ?_); at_builtin; refine Kd.R_append k48 (w0 := w) w.heap.size rfl (.tmp 50) (.tmp 56) 36 48 (.agg #[(.string ⟨#[]⟩), (.string ⟨#[]⟩), (.int .i64 0), (.string ⟨#[]⟩)]) 56 rfl Tryz.underlying36 info48 rfl (by decide) (by omega) u7 x7_1 (⟨(⟨(rd_T46 l1 x9_1).f0, (rd_T46 l1 x9_1).f1⟩ : S46), 554, (⟨#[109, 97, 105, 108, 32, 108, 111, 111, 112]⟩ : ByteArray)⟩ : S48) [.string ((rd_T46 l1 x9_1).f0), .string ((rd_T46 l1 x9_1).f1), .int .i64 554, .string (⟨#[109, 97, 105, 108, 32, 108, 111, 111, 112]⟩ : ByteArray)] (fun _ => True) (fun _ => False) rfl rfl ?aP (fun _ hk => hk.elim) ?aF ?aO ?aB ?aS ?aL ?_; (case aP => exact k48_mkM _ _ _ (⟨(⟨(rd_T46 l1 x9_1).f0, (rd_T46 l1 x9_1).f1⟩ : S46), 554, (⟨#[109, 97, 105, 108, 32, 108, 111, 111, 112]⟩ : ByteArray)⟩ : S48)); (case aB => exact bl); (case aF => exact (fun _ _ => trivial)); (case aO => exact (kr HO_7.out)); (case aS => exact (below_size bl)); (case aL => have := LMc36.out; omega); intro v296 w41 ho hb hg hat; rw [← Ny295.out] at ho; replace HO_6 := Aside0.mk (Kd.R_over' (kr HO_6.out) (Kd.R_typed (kr HO_7.out)) (by decide) hg); replace HO_8 := Aside0.mk (Kd.R_over' (kr HO_8.out) (Kd.R_typed (kr HO_7.out)) (by decide) hg); replace BK280 := Aside0.mk (blk_grown (g := gb280) (o := .cells #[.slice A0_0 l0_0.length c0_0, .string a0_1, .bool a0_2] 30 (0, 0)) (bk BK280.out) hg (Kd.R_ne HO_7.out BK280.out (by decide))); replace BK287 := Aside0.mk (blk_grown (g := gb287) (o := .cells #[.string t285, .string t286] 46 (0, 0)) (bk BK287.out) hg (Kd.R_ne HO_7.out BK287.out (by decide))); replace HB := Aside0.mk (hb); have HO297 := Aside0.mk (ho); clear HO_7 ho hb hg hat))
         repeat (go_quiet (fail); try go_wp2_with (first | (go_at_call 16; (with_reducible refine (postriderref22_Hops.calls k2 _ _ l0_0 a0_1 a0_2 t289 _ ?side1 ?side2 A23.out).mono ?_); (case side1 => repeat (first | exact (Kd.C_below HR0_0.out HB.out) | (with_reducible refine Kd.C_alloc ?_ _) | (with_reducible refine Kd.C_drewN ?_ _) | (with_reducible refine Kd.C_drew ?_))); (case side2 => exact HC0_0.out); rintro e w40 ⟨rfl, hb⟩; replace HO_6 := Aside0.mk (Kd.R_below (kr HO_6.out) hb); replace HO_7 := Aside0.mk (Kd.R_below (kr HO_7.out) hb); replace HO_8 := Aside0.mk (Kd.R_below (kr HO_8.out) hb); replace BK280 := Aside0.mk (kb BK280.out hb); replace BK287 := Aside0.mk (kb BK287.out hb); replace HB := Aside0.mk (below_step bl hb); (try clear hb); (try clear hb2); (try clear hk); (try clear hi); have p294 : 0 ≤ (x9_1 : Int) := od; have q294 : x9_1 < (l1.length : Int) := od; obtain ⟨ad294, e294, hx294_0, hx294_1⟩ := at_T46 HR1.out x9_1 p294 q294; obtain rfl : ad284 = ad294 := (by injection e294); replace hx294_0 := (HB.out.cell (World.block_lt_of_cell? w _ hx294_0)).trans hx294_0; replace hx294_1 := (HB.out.cell (World.block_lt_of_cell? w _ hx294_1)).trans hx294_1; replace p294 := eq_true p294; replace q294 := eq_true q294) | ((with_reducible refine gate_builtin (b := .append) (xs := #[.tmp 50, .tmp 56]) rfl ?_); at_builtin; refine Kd.R_append k48 (w0 := w) w.heap.size rfl (.tmp 50) (.tmp 56) 36 48 (.agg #[(.string ⟨#[]⟩), (.string ⟨#[]⟩), (.int .i64 0), (.string ⟨#[]⟩)]) 56 rfl Tryz.underlying36 info48 rfl (by decide) (by omega) u7 x7_1 (⟨(⟨(rd_T46 l1 x9_1).f0, (rd_T46 l1 x9_1).f1⟩ : S46), 554, (⟨#[109, 97, 105, 108, 32, 108, 111, 111, 112]⟩ : ByteArray)⟩ : S48) [.string ((rd_T46 l1 x9_1).f0), .string ((rd_T46 l1 x9_1).f1), .int .i64 554, .string (⟨#[109, 97, 105, 108, 32, 108, 111, 111, 112]⟩ : ByteArray)] (fun _ => True) (fun _ => False) rfl rfl ?aP (fun _ hk => hk.elim) ?aF ?aO ?aB ?aS ?aL ?_; (case aP => exact k48_mkM _ _ _ (⟨(⟨(rd_T46 l1 x9_1).f0, (rd_T46 l1 x9_1).f1⟩ : S46), 554, (⟨#[109, 97, 105, 108, 32, 108, 111, 111, 112]⟩ : ByteArray)⟩ : S48)); (case aB => exact bl); (case aF => exact (fun _ _ => trivial)); (case aO => exact (kr HO_7.out)); (case aS => exact (below_size bl)); (case aL => have := LMc36.out; omega); intro v296 w41 ho hb hg hat; rw [← Ny295.out] at ho; replace HO_6 := Aside0.mk (Kd.R_over' (kr HO_6.out) (Kd.R_typed (kr HO_7.out)) (by decide) hg); replace HO_8 := Aside0.mk (Kd.R_over' (kr HO_8.out) (Kd.R_typed (kr HO_7.out)) (by decide) hg); replace BK280 := Aside0.mk (blk_grown (g := gb280) (o := .cells #[.slice A0_0 l0_0.length c0_0, .string a0_1, .bool a0_2] 30 (0, 0)) (bk BK280.out) hg (Kd.R_ne HO_7.out BK280.out (by decide))); replace BK287 := Aside0.mk (blk_grown (g := gb287) (o := .cells #[.string t285, .string t286] 46 (0, 0)) (bk BK287.out) hg (Kd.R_ne HO_7.out BK287.out (by decide))); replace HB := Aside0.mk (hb); have HO297 := Aside0.mk (ho); clear HO_7 ho hb hg hat)))
         go_roundg k2
         case measure => have := HK1.out; have := HK2.out; omega
         case rel => exact ⟨(x6_1), (y295), (wrap64 (x9_1 + 1)), rs, H', ⟨by have := HK1.out; have := HK2.out; omega⟩, ⟨by (with_reducible repeat (first | apply Kd.R_alloc | apply Kd.R_drewN | apply Kd.R_drew)); exact Kd.R_mono HO_6.out (fun _ hk => hk.1)⟩, ⟨kr HO297.out⟩, ⟨by (with_reducible repeat (first | apply Kd.R_alloc | apply Kd.R_drewN | apply Kd.R_drew)); exact Kd.R_mono HO_8.out (fun _ hk => hk.1)⟩, ⟨bk BK280.out⟩, ⟨bl⟩⟩
        ·replace c33 := Bool.eq_false_iff.mpr c33
         subst c33
         replace H : (if 0 ≤ x9_1 then (if x9_1 < (l1.length : Int) then (if x6_1.length < 4398046511104 then (postriderref22_Check.l0 k2 l1 (x6_1 ++ [(⟨(rd_T46 l1 x9_1).f0, (rd_T46 l1 x9_1).f1⟩ : S46)]) x7_1 t281 (wrap64 (x9_1 + 1)) l0_0 a0_1 a0_2) else (none)) else (none)) else (none)) = some (r1, r2) := by rw [if_neg (show ¬ (false = true) by decide)] at H; exact H
         by_cases c42 : 0 ≤ x9_1
         rotate_left
         ·rw [if_neg c42] at H
          exact ab H
         rw [if_pos c42] at H
         have c42b0 : decide (0 ≤ x9_1) = true := decide_eq_true c42
         clear c42
         by_cases c43 : x9_1 < (l1.length : Int)
         rotate_left
         ·rw [if_neg c43] at H
          exact ab H
         rw [if_pos c43] at H
         have c43b0 : decide (x9_1 < (l1.length : Int)) = true := decide_eq_true c43
         clear c43
         by_cases c44 : x6_1.length < 4398046511104
         rotate_left
         ·rw [if_neg c44] at H
          exact ab H
         rw [if_pos c44] at H
         have LMc44 := Aside0.mk c44
         clear c44
         obtain ⟨y299, hy299⟩ : ∃ y_ : List (S46), y_ = (x6_1 ++ [(⟨(rd_T46 l1 x9_1).f0, (rd_T46 l1 x9_1).f1⟩ : S46)]) := ⟨_, rfl⟩
         replace H : (postriderref22_Check.l0 k2 l1 y299 x7_1 t281 (wrap64 (x9_1 + 1)) l0_0 a0_1 a0_2) = some (r1, r2) := by first | (rw [hy299]; with_reducible exact H) | (have H2_ := (Option.bind_some _ _).symm.trans H; rw [hy299]; with_reducible exact H2_) | (have H2_ := (Option.bind_some _ _).symm.trans H; with_reducible exact H2_) | with_reducible exact H | (rw [hy299]; exact H) | exact H
         have Ny299 := Aside0.mk hy299
         clear hy299
         have H' := Aside0.mk H
         clear H
         obtain ⟨Ao45, co45, eo45⟩ := Kd.R_slice HO_8.out
         subst eo45
         have hnb46 := NB280_287.out
         have hnc46 := NB287_280.out
         have hcz47_0 := cz BK280.out 0 (.slice A0_0 l0_0.length c0_0)
         have hcz47_1 := cz BK280.out 1 (.string a0_1)
         have hcz47_2 := cz BK280.out 2 (.bool a0_2)
         have hfz47_0 := blk_frozen BK280.out 0
         have hfz47_1 := blk_frozen BK280.out 1
         have hfz47_2 := blk_frozen BK280.out 2
         go_wp2_with (first | (go_at_call 16; (with_reducible refine (postriderref22_Hops.calls k2 _ _ l0_0 a0_1 a0_2 t289 _ ?side1 ?side2 A23.out).mono ?_); (case side1 => repeat (first | exact (Kd.C_below HR0_0.out HB.out) | (with_reducible refine Kd.C_alloc ?_ _) | (with_reducible refine Kd.C_drewN ?_ _) | (with_reducible refine Kd.C_drew ?_))); (case side2 => exact HC0_0.out); rintro e w48 ⟨rfl, hb⟩; replace HO_6 := Aside0.mk (Kd.R_below (kr HO_6.out) hb); replace HO_7 := Aside0.mk (Kd.R_below (kr HO_7.out) hb); replace HO_8 := Aside0.mk (Kd.R_below (kr HO_8.out) hb); replace BK280 := Aside0.mk (kb BK280.out hb); replace BK287 := Aside0.mk (kb BK287.out hb); replace HB := Aside0.mk (below_step bl hb); (try clear hb); (try clear hb2); (try clear hk); (try clear hi); have p298 : 0 ≤ (x9_1 : Int) := od; have q298 : x9_1 < (l1.length : Int) := od; obtain ⟨ad298, e298, hx298_0, hx298_1⟩ := at_T46 HR1.out x9_1 p298 q298; obtain rfl : ad284 = ad298 := (by injection e298); replace hx298_0 := (HB.out.cell (World.block_lt_of_cell? w _ hx298_0)).trans hx298_0; replace hx298_1 := (HB.out.cell (World.block_lt_of_cell? w _ hx298_1)).trans hx298_1; replace p298 := eq_true p298; replace q298 := eq_true q298) | ((with_reducible refine gate_builtin (b := .append) (xs := #[.tmp 58, .tmp 63]) rfl ?_); at_builtin; refine Kd.R_append k46 (w0 := w) w.heap.size rfl (.tmp 58) (.tmp 63) 35 46 (.agg #[(.string ⟨#[]⟩), (.string ⟨#[]⟩)]) 32 rfl Tryz.underlying35 info46 rfl (by decide) (by omega) u6 x6_1 (⟨(rd_T46 l1 x9_1).f0, (rd_T46 l1 x9_1).f1⟩ : S46) [.string ((rd_T46 l1 x9_1).f0), .string ((rd_T46 l1 x9_1).f1)] (fun k_ => some k_ ≠ (.slice Ao45 t281.length co45 : Value).ownBlock ∧ k_ ≠ gb287) (fun _ => False) rfl rfl ?aP (fun _ hk => hk.elim) ?aF ?aO ?aB ?aS ?aL ?_; (case aP => exact k46_mkM _ _ _ (⟨(rd_T46 l1 x9_1).f0, (rd_T46 l1 x9_1).f1⟩ : S46)); (case aB => exact bl); (case aF => exact (fun k_ hk => ⟨Kd.fresh' (Kd.R_lt (kr HO_8.out)) k_ hk, Kd.freshB (g := gb287) (o := .cells #[.string t285, .string t286] 46 (0, 0)) (bk BK287.out) k_ hk⟩)); (case aO => exact (kr HO_6.out)); (case aS => exact (below_size bl)); (case aL => have := LMc44.out; omega); intro v300 w49 ho hb hg hat; rw [← Ny299.out] at ho; replace HO_7 := Aside0.mk (Kd.R_over' (kr HO_7.out) (Kd.R_typed (kr HO_6.out)) (by decide) hg); replace HO_8 := Aside0.mk (Kd.R_after (ok := (fun k_ => k_ ≠ gb287)) (by (with_reducible repeat (first | apply Kd.R_alloc | apply Kd.R_drewN | apply Kd.R_drew)); exact Kd.R_mono HO_8.out (fun _ hk => ⟨hk.2, hk.1⟩)) hg hat); replace BK280 := Aside0.mk (blk_grown (g := gb280) (o := .cells #[.slice A0_0 l0_0.length c0_0, .string a0_1, .bool a0_2] 30 (0, 0)) (bk BK280.out) hg (Kd.R_ne HO_6.out BK280.out (by decide))); replace BK287 := Aside0.mk (blk_grown (g := gb287) (o := .cells #[.string t285, .string t286] 46 (0, 0)) (bk BK287.out) hg (Kd.R_away HO_6.out (fun _ hk => hk.2))); replace HB := Aside0.mk (hb); have HO301 := Aside0.mk (ho); clear HO_6 ho hb hg hat))
         repeat (go_quiet (fail); try go_wp2_with (first | (go_at_call 16; (with_reducible refine (postriderref22_Hops.calls k2 _ _ l0_0 a0_1 a0_2 t289 _ ?side1 ?side2 A23.out).mono ?_); (case side1 => repeat (first | exact (Kd.C_below HR0_0.out HB.out) | (with_reducible refine Kd.C_alloc ?_ _) | (with_reducible refine Kd.C_drewN ?_ _) | (with_reducible refine Kd.C_drew ?_))); (case side2 => exact HC0_0.out); rintro e w48 ⟨rfl, hb⟩; replace HO_6 := Aside0.mk (Kd.R_below (kr HO_6.out) hb); replace HO_7 := Aside0.mk (Kd.R_below (kr HO_7.out) hb); replace HO_8 := Aside0.mk (Kd.R_below (kr HO_8.out) hb); replace BK280 := Aside0.mk (kb BK280.out hb); replace BK287 := Aside0.mk (kb BK287.out hb); replace HB := Aside0.mk (below_step bl hb); (try clear hb); (try clear hb2); (try clear hk); (try clear hi); have p298 : 0 ≤ (x9_1 : Int) := od; have q298 : x9_1 < (l1.length : Int) := od; obtain ⟨ad298, e298, hx298_0, hx298_1⟩ := at_T46 HR1.out x9_1 p298 q298; obtain rfl : ad284 = ad298 := (by injection e298); replace hx298_0 := (HB.out.cell (World.block_lt_of_cell? w _ hx298_0)).trans hx298_0; replace hx298_1 := (HB.out.cell (World.block_lt_of_cell? w _ hx298_1)).trans hx298_1; replace p298 := eq_true p298; replace q298 := eq_true q298) | ((with_reducible refine gate_builtin (b := .append) (xs := #[.tmp 58, .tmp 63]) rfl ?_); at_builtin; refine Kd.R_append k46 (w0 := w) w.heap.size rfl (.tmp 58) (.tmp 63) 35 46 (.agg #[(.string ⟨#[]⟩), (.string ⟨#[]⟩)]) 32 rfl Tryz.underlying35 info46 rfl (by decide) (by omega) u6 x6_1 (⟨(rd_T46 l1 x9_1).f0, (rd_T46 l1 x9_1).f1⟩ : S46) [.string ((rd_T46 l1 x9_1).f0), .string ((rd_T46 l1 x9_1).f1)] (fun k_ => some k_ ≠ (.slice Ao45 t281.length co45 : Value).ownBlock ∧ k_ ≠ gb287) (fun _ => False) rfl rfl ?aP (fun _ hk => hk.elim) ?aF ?aO ?aB ?aS ?aL ?_; (case aP => exact k46_mkM _ _ _ (⟨(rd_T46 l1 x9_1).f0, (rd_T46 l1 x9_1).f1⟩ : S46)); (case aB => exact bl); (case aF => exact (fun k_ hk => ⟨Kd.fresh' (Kd.R_lt (kr HO_8.out)) k_ hk, Kd.freshB (g := gb287) (o := .cells #[.string t285, .string t286] 46 (0, 0)) (bk BK287.out) k_ hk⟩)); (case aO => exact (kr HO_6.out)); (case aS => exact (below_size bl)); (case aL => have := LMc44.out; omega); intro v300 w49 ho hb hg hat; rw [← Ny299.out] at ho; replace HO_7 := Aside0.mk (Kd.R_over' (kr HO_7.out) (Kd.R_typed (kr HO_6.out)) (by decide) hg); replace HO_8 := Aside0.mk (Kd.R_after (ok := (fun k_ => k_ ≠ gb287)) (by (with_reducible repeat (first | apply Kd.R_alloc | apply Kd.R_drewN | apply Kd.R_drew)); exact Kd.R_mono HO_8.out (fun _ hk => ⟨hk.2, hk.1⟩)) hg hat); replace BK280 := Aside0.mk (blk_grown (g := gb280) (o := .cells #[.slice A0_0 l0_0.length c0_0, .string a0_1, .bool a0_2] 30 (0, 0)) (bk BK280.out) hg (Kd.R_ne HO_6.out BK280.out (by decide))); replace BK287 := Aside0.mk (blk_grown (g := gb287) (o := .cells #[.string t285, .string t286] 46 (0, 0)) (bk BK287.out) hg (Kd.R_away HO_6.out (fun _ hk => hk.2))); replace HB := Aside0.mk (hb); have HO301 := Aside0.mk (ho); clear HO_6 ho hb hg hat)))
         go_roundg k2
         case measure => have := HK1.out; have := HK2.out; omega
         case rel => exact ⟨(y299), (x7_1), (wrap64 (x9_1 + 1)), rs, H', ⟨by have := HK1.out; have := HK2.out; omega⟩, ⟨by (with_reducible repeat (first | apply Kd.R_alloc | apply Kd.R_drewN | apply Kd.R_drew)); exact Kd.R_mono HO301.out (fun _ hk => hk.1)⟩, ⟨kr HO_7.out⟩, ⟨by (with_reducible repeat (first | apply Kd.R_alloc | apply Kd.R_drewN | apply Kd.R_drew)); exact Kd.R_mono HO_8.out (fun _ hk => hk.2)⟩, ⟨bk BK280.out⟩, ⟨bl⟩⟩
   ·rw [if_neg c7] at H
    have c7b0 : decide (x9_1 < (l1.length : Int)) = false := decide_eq_false c7
    clear c7
    simp only [Option.some.injEq, Prod.mk.injEq] at H
    obtain ⟨rfl, rfl⟩ := H
    go_wp2
    repeat (go_quiet (fail); try go_wp2)
    go_ret2
    exact ⟨_, _, by first | rfl | (simp [errW_none, errW_some] <;> rfl) | (simp [*, errW_none, errW_some] <;> rfl), by (with_reducible repeat (first | apply Kd.R_alloc | apply Kd.R_drewN | apply Kd.R_drew)); exact Kd.R_mono HO_6.out (fun _ hk => trivial), kr HO_7.out, bl⟩

/-! ### postriderlaw22_of: function 13 -/
def postriderlaw22_of.l0 : Nat → List (S50) → List (S46) → Int → Option ((List (S46)))
 | 0, _, _, _ => none
 | k + 1, x0, x3, x4 => if x4 < (x0.length : Int) then (if 0 ≤ x4 then (if x3.length < 4398046511104 then (postriderlaw22_of.l0 k x0 (x3 ++ [(⟨(rd_T50 x0 x4).f0, (rd_T50 x0 x4).f1⟩ : S46)]) (wrap64 (x4 + 1))) else (none)) else (none)) else (some x3)
def postriderlaw22_of.f (k : Nat) (l0 : List (S50)) : Option ((List (S46))) := postriderlaw22_of.l0 k l0 ([] : List (S46)) 0
theorem postriderlaw22_of.mono_l : ∀ k, (∀ y0 y1 y2, LeO (postriderlaw22_of.l0 k y0 y1 y2) (postriderlaw22_of.l0 (k + 1) y0 y1 y2))
 | 0 => fun _ _ _ r h => by simp [postriderlaw22_of.l0] at h
 | k + 1 => by
  have ih0 := postriderlaw22_of.mono_l k
  ·intro y0 y1 y2
   unfold postriderlaw22_of.l0
   repeat' first
   | (with_reducible first | exact ih0 _ _ _ | exact LeO.refl _ | exact LeO.none _ | refine LeO.ite ?_ ?_ | refine LeO.bind ?_ (fun _ => ?_))
theorem postriderlaw22_of.mono : ∀ a0 k, LeO (postriderlaw22_of.f k a0) (postriderlaw22_of.f (k + 1) a0) := by
 intro a0 k
 have ih0 := postriderlaw22_of.mono_l k
 unfold postriderlaw22_of.f
 repeat' first
   | (with_reducible first | exact ih0 _ _ _ | exact LeO.refl _ | exact LeO.none _ | refine LeO.ite ?_ ?_ | refine LeO.bind ?_ (fun _ => ?_))
theorem postriderlaw22_of.calls (k : Nat) (A0 : Option Addr) (c0 : Nat) (l0 : List (S50)) (r : List (S46)) (w : World) (hr0 : Kd.C k50 w A0 l0.length l0) (hc0 : l0.length ≤ c0) (h : postriderlaw22_of.f k l0 = some r) :
  Calls Tryz.prog 13 #[.slice A0 l0.length c0] w fun e w' => ∃ v0_ : Value, e = .returned (v0_) ∧ Kd.R k46 46 w' w.heap.size (fun _ => True) v0_ r ∧ Below w.heap.size w w' := by
 have hu50 := Tryz.underlying50
 have HR0 := Aside0.mk hr0
 have HC0 := Aside0.mk hc0
 clear hr0 hc0
 have HB := Aside0.mk (Below.refl w.heap.size w)
 have H : (postriderlaw22_of.l0 k l0 ([] : List (S46)) 0) = some r := h
 clear h
 have H' := Aside0.mk H
 clear H
 go_enter Tryz.func13, Tryz.ntmps13
 go_wp2
 go_loopg [3, 4] k (fun kq v3 v4 w' => ∃ (x3_1 : List (S46)) (x4_1 : Int), v4 = .int .i64 x4_1 ∧ Aside0 (postriderlaw22_of.l0 kq l0 x3_1 x4_1 = some r) ∧ Aside0 (kq ≤ k) ∧ Aside0 (Kd.R k46 46 w' w.heap.size (fun _ => True) v3 x3_1) ∧ Aside0 (Below w.heap.size w w'))
 case atStart => exact ⟨(([] : List (S46))), (0), rs, H', ⟨Nat.le_refl _⟩, ⟨by first | exact Kd.R_nil _ _ _ _ _ | exact Kd.N_nil _ _ _ _ _ | exact Kd.V_nil _ _ _ _ _ | exact Kd.Q_nil _ _ _ _ _ | exact Kd.S_nil _ _ _ _ _⟩, ⟨bl⟩⟩
 case round =>
  clear H'
  try clear c1
  obtain ⟨x3_1, x4_1, rfl, HA, HK1, HO_3, HB⟩ := hrel
  cases gk with
  | zero => exact absurd HA.out (by simp [postriderlaw22_of.l0])
  | succ k1 =>
   have H := HA.out
   clear HA
   simp only [postriderlaw22_of.l0] at H
   by_cases c2 : x4_1 < (l0.length : Int)
   ·rw [if_pos c2] at H
    have c2b0 : decide (x4_1 < (l0.length : Int)) = true := decide_eq_true c2
    clear c2
    by_cases c3 : 0 ≤ x4_1
    rotate_left
    ·rw [if_neg c3] at H
     exact ab H
    rw [if_pos c3] at H
    have c3b0 : decide (0 ≤ x4_1) = true := decide_eq_true c3
    clear c3
    by_cases c4 : x3_1.length < 4398046511104
    rotate_left
    ·rw [if_neg c4] at H
     exact ab H
    rw [if_pos c4] at H
    have LMc4 := Aside0.mk c4
    clear c4
    obtain ⟨y303, hy303⟩ : ∃ y_ : List (S46), y_ = (x3_1 ++ [(⟨(rd_T50 l0 x4_1).f0, (rd_T50 l0 x4_1).f1⟩ : S46)]) := ⟨_, rfl⟩
    replace H : (postriderlaw22_of.l0 k1 l0 y303 (wrap64 (x4_1 + 1))) = some r := by first | (rw [hy303]; with_reducible exact H) | (have H2_ := (Option.bind_some _ _).symm.trans H; rw [hy303]; with_reducible exact H2_) | (have H2_ := (Option.bind_some _ _).symm.trans H; with_reducible exact H2_) | with_reducible exact H | (rw [hy303]; exact H) | exact H
    have Ny303 := Aside0.mk hy303
    clear hy303
    have H' := Aside0.mk H
    clear H
    have p302 : 0 ≤ (x4_1 : Int) := od
    have q302 : x4_1 < (l0.length : Int) := od
    obtain ⟨ad302, e302, hx302_0, hx302_1⟩ := at_T50 HR0.out x4_1 p302 q302
    cases e302
    replace hx302_0 := (HB.out.cell (World.block_lt_of_cell? w _ hx302_0)).trans hx302_0
    replace hx302_1 := (HB.out.cell (World.block_lt_of_cell? w _ hx302_1)).trans hx302_1
    replace p302 := eq_true p302
    replace q302 := eq_true q302
    go_wp2_with (first | ((with_reducible refine gate_builtin (b := .append) (xs := #[.tmp 11, .tmp 16]) rfl ?_); at_builtin; refine Kd.R_append k46 (w0 := w) w.heap.size rfl (.tmp 11) (.tmp 16) 35 46 (.agg #[(.string ⟨#[]⟩), (.string ⟨#[]⟩)]) 32 rfl Tryz.underlying35 info46 rfl (by decide) (by omega) u3 x3_1 (⟨(rd_T50 l0 x4_1).f0, (rd_T50 l0 x4_1).f1⟩ : S46) [.string ((rd_T50 l0 x4_1).f0), .string ((rd_T50 l0 x4_1).f1)] (fun _ => True) (fun _ => False) rfl rfl ?aP (fun _ hk => hk.elim) ?aF ?aO ?aB ?aS ?aL ?_; (case aP => exact k46_mkM _ _ _ (⟨(rd_T50 l0 x4_1).f0, (rd_T50 l0 x4_1).f1⟩ : S46)); (case aB => exact bl); (case aF => exact (fun _ _ => trivial)); (case aO => exact (kr HO_3.out)); (case aS => exact (below_size bl)); (case aL => have := LMc4.out; omega); intro v304 w5 ho hb hg hat; rw [← Ny303.out] at ho; replace HB := Aside0.mk (hb); have HO305 := Aside0.mk (ho); clear HO_3 ho hb hg hat))
    go_roundg k1
    case measure => have := HK1.out; omega
    case rel => exact ⟨(y303), (wrap64 (x4_1 + 1)), rs, H', ⟨by have := HK1.out; omega⟩, ⟨kr HO305.out⟩, ⟨bl⟩⟩
   ·rw [if_neg c2] at H
    have c2b0 : decide (x4_1 < (l0.length : Int)) = false := decide_eq_false c2
    clear c2
    obtain rfl := Option.some.inj H
    go_wp2
    go_ret
    exact ⟨_, by first | rfl | (simp [errW_none, errW_some] <;> rfl) | (simp [*, errW_none, errW_some] <;> rfl), kr HO_3.out, bl⟩

/-! ### postriderlaw22_same: function 14 -/
def postriderlaw22_same.l0 : Nat → List (S50) → List (S46) → Int → Option (Bool)
 | 0, _, _, _ => none
 | k + 1, x0, x1, x5 => if x5 < (x0.length : Int) then (if 0 ≤ x5 then (if x5 < (x1.length : Int) then (if (!((((rd_T50 x0 x5).f0).toList) == (((rd_T46 x1 x5).f0).toList)) || (!((((rd_T50 x0 x5).f1).toList) == (((rd_T46 x1 x5).f1).toList)))) = true then (some false) else (postriderlaw22_same.l0 k x0 x1 (wrap64 (x5 + 1)))) else (none)) else (none)) else (some true)
def postriderlaw22_same.f (k : Nat) (l0 : List (S50)) (l1 : List (S46)) : Option (Bool) := if (l0.length : Int) = (l1.length : Int) then (postriderlaw22_same.l0 k l0 l1 0) else (some false)
theorem postriderlaw22_same.mono_l : ∀ k, (∀ y0 y1 y2, LeO (postriderlaw22_same.l0 k y0 y1 y2) (postriderlaw22_same.l0 (k + 1) y0 y1 y2))
 | 0 => fun _ _ _ r h => by simp [postriderlaw22_same.l0] at h
 | k + 1 => by
  have ih0 := postriderlaw22_same.mono_l k
  ·intro y0 y1 y2
   unfold postriderlaw22_same.l0
   repeat' first
   | (with_reducible first | exact ih0 _ _ _ | exact LeO.refl _ | exact LeO.none _ | refine LeO.ite ?_ ?_ | refine LeO.bind ?_ (fun _ => ?_))
theorem postriderlaw22_same.mono : ∀ a0 a1 k, LeO (postriderlaw22_same.f k a0 a1) (postriderlaw22_same.f (k + 1) a0 a1) := by
 intro a0 a1 k
 have ih0 := postriderlaw22_same.mono_l k
 unfold postriderlaw22_same.f
 repeat' first
   | (with_reducible first | exact ih0 _ _ _ | exact LeO.refl _ | exact LeO.none _ | refine LeO.ite ?_ ?_ | refine LeO.bind ?_ (fun _ => ?_))
theorem postriderlaw22_same.calls (k : Nat) (A0 : Option Addr) (c0 : Nat) (l0 : List (S50)) (A1 : Option Addr) (c1 : Nat) (l1 : List (S46)) (r : Bool) (w : World) (hr0 : Kd.C k50 w A0 l0.length l0) (hc0 : l0.length ≤ c0) (hr1 : Kd.C k46 w A1 l1.length l1) (hc1 : l1.length ≤ c1) (h : postriderlaw22_same.f k l0 l1 = some r) :
  Calls Tryz.prog 14 #[.slice A0 l0.length c0, .slice A1 l1.length c1] w fun e w' => e = .returned (.bool r) ∧ Drawn0 w w' := by
 have hu50 := Tryz.underlying50
 have hu46 := Tryz.underlying46
 have HR0 := Aside0.mk hr0
 have HC0 := Aside0.mk hc0
 clear hr0 hc0
 have HR1 := Aside0.mk hr1
 have HC1 := Aside0.mk hc1
 clear hr1 hc1
 have H : (if (l0.length : Int) = (l1.length : Int) then (postriderlaw22_same.l0 k l0 l1 0) else (some false)) = some r := h
 clear h
 by_cases c3 : (l0.length : Int) = (l1.length : Int)
 ·rw [if_pos c3] at H
  have c3b0 : ((l0.length : Int) == (l1.length : Int)) = true := beq_iff_eq.mpr c3
  have c3b1 : ((l0.length : Int) != (l1.length : Int)) = false := bne_eq_false_iff_eq.mpr c3
  have c3b2 : (l0.length == l1.length) = true := by first | simpa using c3 | (simp at c3 ⊢; omega)
  clear c3
  have H' := Aside0.mk H
  clear H
  go_enter Tryz.func14, Tryz.ntmps14
  go_wp2
  repeat (go_quiet (fail); try go_wp2)
  go_loopg [5] k (fun kq v5 w' => ∃ (x5_1 : Int), v5 = .int .i64 x5_1 ∧ Aside0 (postriderlaw22_same.l0 kq l0 l1 x5_1 = some r) ∧ Aside0 (kq ≤ k) ∧ Drawn0 w w')
  case atStart => exact ⟨(0), rs, H', ⟨Nat.le_refl _⟩, dr⟩
  case round =>
   clear H'
   try clear c1
   try clear p2
   try clear c3
   try clear c3b0
   try clear c3b1
   try clear c3b2
   obtain ⟨x5_1, rfl, HA, HK1, ⟨m1, rfl⟩⟩ := hrel
   cases gk with
   | zero => exact absurd HA.out (by simp [postriderlaw22_same.l0])
   | succ k1 =>
    have H := HA.out
    clear HA
    simp only [postriderlaw22_same.l0] at H
    by_cases c4 : x5_1 < (l0.length : Int)
    ·rw [if_pos c4] at H
     have c4b0 : decide (x5_1 < (l0.length : Int)) = true := decide_eq_true c4
     clear c4
     by_cases c5 : 0 ≤ x5_1
     rotate_left
     ·rw [if_neg c5] at H
      exact ab H
     rw [if_pos c5] at H
     have c5b0 : decide (0 ≤ x5_1) = true := decide_eq_true c5
     clear c5
     by_cases c6 : x5_1 < (l1.length : Int)
     rotate_left
     ·rw [if_neg c6] at H
      exact ab H
     rw [if_pos c6] at H
     have c6b0 : decide (x5_1 < (l1.length : Int)) = true := decide_eq_true c6
     clear c6
     by_cases c7 : (!((((rd_T50 l0 x5_1).f0).toList) == (((rd_T46 l1 x5_1).f0).toList)) || (!((((rd_T50 l0 x5_1).f1).toList) == (((rd_T46 l1 x5_1).f1).toList)))) = true
     ·rw [if_pos c7] at H
      have c7b0 : (!((((rd_T50 l0 x5_1).f0).toList) == (((rd_T46 l1 x5_1).f0).toList)) || (!((((rd_T50 l0 x5_1).f1).toList) == (((rd_T46 l1 x5_1).f1).toList)))) = true := c7
      clear c7
      obtain rfl := Option.some.inj H
      have p306 : 0 ≤ (x5_1 : Int) := od
      have q306 : x5_1 < (l0.length : Int) := od
      obtain ⟨ad306, e306, hx306_0, hx306_1⟩ := at_T50 HR0.out x5_1 p306 q306
      cases e306
      replace p306 := eq_true p306
      replace q306 := eq_true q306
      have p307 : 0 ≤ (x5_1 : Int) := od
      have q307 : x5_1 < (l1.length : Int) := od
      obtain ⟨ad307, e307, hx307_0, hx307_1⟩ := at_T46 HR1.out x5_1 p307 q307
      cases e307
      replace p307 := eq_true p307
      replace q307 := eq_true q307
      go_wp2
      repeat (go_quiet (fail); try go_wp2)
      go_ret
      exact ⟨by first | rfl | (simp [bneNil]; done) | (simp; done) | (simp [*]; done), dr⟩
     ·rw [if_neg c7] at H
      have c7b0 : (!((((rd_T50 l0 x5_1).f0).toList) == (((rd_T46 l1 x5_1).f0).toList)) || (!((((rd_T50 l0 x5_1).f1).toList) == (((rd_T46 l1 x5_1).f1).toList)))) = false := by simpa using c7
      clear c7
      have H' := Aside0.mk H
      clear H
      have p306 : 0 ≤ (x5_1 : Int) := od
      have q306 : x5_1 < (l0.length : Int) := od
      obtain ⟨ad306, e306, hx306_0, hx306_1⟩ := at_T50 HR0.out x5_1 p306 q306
      cases e306
      replace p306 := eq_true p306
      replace q306 := eq_true q306
      have p307 : 0 ≤ (x5_1 : Int) := od
      have q307 : x5_1 < (l1.length : Int) := od
      obtain ⟨ad307, e307, hx307_0, hx307_1⟩ := at_T46 HR1.out x5_1 p307 q307
      cases e307
      replace p307 := eq_true p307
      replace q307 := eq_true q307
      go_wp2
      repeat (go_quiet (fail); try go_wp2)
      go_roundg k1
      case measure => have := HK1.out; omega
      case rel => exact ⟨(wrap64 (x5_1 + 1)), rs, H', ⟨by have := HK1.out; omega⟩, dr⟩
    ·rw [if_neg c4] at H
     have c4b0 : decide (x5_1 < (l0.length : Int)) = false := decide_eq_false c4
     clear c4
     obtain rfl := Option.some.inj H
     go_wp2
     repeat (go_quiet (fail); try go_wp2)
     go_ret
     exact ⟨by first | rfl | (simp [bneNil]; done) | (simp; done) | (simp [*]; done), dr⟩
 ·rw [if_neg c3] at H
  have c3b0 : ((l0.length : Int) == (l1.length : Int)) = false := beq_eq_false_iff_ne.mpr c3
  have c3b1 : ((l0.length : Int) != (l1.length : Int)) = true := bne_iff_ne.mpr c3
  have c3b2 : (l0.length == l1.length) = false := by first | simpa using c3 | (simp at c3 ⊢; omega)
  obtain rfl := Option.some.inj H
  go_enter Tryz.func14, Tryz.ntmps14
  go_wp2
  repeat (go_quiet (fail); try go_wp2)
  go_ret
  exact ⟨by first | rfl | (simp [bneNil]; done) | (simp; done) | (simp [*]; done), dr⟩

/-! ### postriderlaw20_Failure: function 19 -/
def postriderlaw20_Failure.f (a0_0 : ByteArray) (a0_1 : ByteArray) (a0_2 : Int) (a0_3 : ByteArray) : Option (ByteArray × ByteArray × Int × ByteArray) := some (a0_0, a0_1, a0_2, a0_3)
theorem postriderlaw20_Failure.calls (a0_0 : ByteArray) (a0_1 : ByteArray) (a0_2 : Int) (a0_3 : ByteArray) (r1 : ByteArray) (r2 : ByteArray) (r3 : Int) (r4 : ByteArray) (w : World) (h : postriderlaw20_Failure.f a0_0 a0_1 a0_2 a0_3 = some (r1, r2, r3, r4)) :
  Calls Tryz.prog 19 #[.agg #[.string a0_0, .string a0_1, .int .i64 a0_2, .string a0_3]] w fun e w' => e = .returned (.agg #[.string r1, .string r2, .int .i64 r3, .string r4]) ∧ Below w.heap.size w w' := by
 have hu52 := Tryz.underlying52
 have hu48 := Tryz.underlying48
 have hu50 := Tryz.underlying50
 have HB := Aside0.mk (Below.refl w.heap.size w)
 have H : (some (a0_0, a0_1, a0_2, a0_3)) = some (r1, r2, r3, r4) := h
 clear h
 simp only [Option.some.injEq, Prod.mk.injEq] at H
 obtain ⟨rfl, rfl, rfl, rfl⟩ := H
 go_enter Tryz.func19, Tryz.ntmps19
 go_wp2_with (first | ((with_reducible refine gate_dst (N := 1) rfl ?_); refine box_event ?hg (N := 1) ?hd (cs := #[.string a0_0, .string a0_1, .int .i64 a0_2, .string a0_3]) (t := 52) ?hr ?_; (case hd => rfl); (case hg => rfl); (case hr => first | (go_simp; done) | (go_simp; rfl)); intro gb308 hg w2 hbox hb; have BK308 := Aside0.mk (hbox); have GW308 := Aside0.mk (gz hg : w.heap.size ≤ gb308); have GE308 := Aside0.mk (gz hg : w.heap.size ≤ gb308); replace HB := Aside0.mk (below_step bl hb); clear hb hbox hg) | ((with_reducible refine gate_dst (N := 2) rfl ?_); refine box_event ?hg (N := 2) ?hd (cs := #[.string (⟨#[]⟩ : ByteArray), .string (⟨#[]⟩ : ByteArray), .int .i64 0, .string (⟨#[]⟩ : ByteArray)]) (t := 48) ?hr ?_; (case hd => rfl); (case hg => rfl); (case hr => first | (go_simp; done) | (go_simp; rfl)); intro gb309 hg w3 hbox hb; have BK309 := Aside0.mk (hbox); have GW309 := Aside0.mk (gz hg : w.heap.size ≤ gb309); have GE309 := Aside0.mk (gz hg : w.heap.size ≤ gb309); replace HB := Aside0.mk (below_step bl hb); have NB308_309 := Aside0.mk (nl hg BK308.out : gb308 ≠ gb309); have NB309_308 := Aside0.mk (ng hg BK308.out : gb309 ≠ gb308); replace BK308 := Aside0.mk (kb BK308.out hb); clear hb hbox hg; have hnb4 := NB308_309.out; have hnc4 := NB309_308.out; have hcz5_0 := cz BK308.out 0 (.string a0_0); have hcz5_1 := cz BK308.out 1 (.string a0_1); have hcz5_2 := cz BK308.out 2 (.int .i64 a0_2); have hcz5_3 := cz BK308.out 3 (.string a0_3); have hfz5_0 := blk_frozen BK308.out 0; have hfz5_1 := blk_frozen BK308.out 1; have hfz5_2 := blk_frozen BK308.out 2; have hfz5_3 := blk_frozen BK308.out 3; have hcz6_0 := cz BK309.out 0 (.string (⟨#[]⟩ : ByteArray)); have hcz6_1 := cz BK309.out 1 (.string (⟨#[]⟩ : ByteArray)); have hcz6_2 := cz BK309.out 2 (.int .i64 0); have hcz6_3 := cz BK309.out 3 (.string (⟨#[]⟩ : ByteArray)); have hfz6_0 := blk_frozen BK309.out 0; have hfz6_1 := blk_frozen BK309.out 1; have hfz6_2 := blk_frozen BK309.out 2; have hfz6_3 := blk_frozen BK309.out 3))
 refine bodyPost_ret (results_cell_row rfl _ _ gb309 48 #[.string a0_0, .string a0_1, .int .i64 a0_2, .string a0_3] (0, 0) _ rfl (by (with_reducible repeat (first | refine blk_drewN ?_ _ | refine blk_drew ?_ | refine blk_alloc ?_ _)); refine blk_put (cs := #[.string a0_0, .string a0_1, .int .i64 a0_2, .string (⟨#[]⟩ : ByteArray)]) ?_ 3 _ rfl; (with_reducible repeat (first | refine blk_drewN ?_ _ | refine blk_drew ?_ | refine blk_alloc ?_ _)); refine blk_put (cs := #[.string a0_0, .string a0_1, .int .i64 0, .string (⟨#[]⟩ : ByteArray)]) ?_ 2 _ rfl; (with_reducible repeat (first | refine blk_drewN ?_ _ | refine blk_drew ?_ | refine blk_alloc ?_ _)); refine blk_put (cs := #[.string a0_0, .string (⟨#[]⟩ : ByteArray), .int .i64 0, .string (⟨#[]⟩ : ByteArray)]) ?_ 1 _ rfl; (with_reducible repeat (first | refine blk_drewN ?_ _ | refine blk_drew ?_ | refine blk_alloc ?_ _)); refine blk_put (cs := #[.string (⟨#[]⟩ : ByteArray), .string (⟨#[]⟩ : ByteArray), .int .i64 0, .string (⟨#[]⟩ : ByteArray)]) ?_ 0 _ rfl; (with_reducible repeat (first | refine blk_drewN ?_ _ | refine blk_drew ?_ | refine blk_alloc ?_ _)); exact BK309.out) Tryz.underlying48 rfl kf) rfl ?_
 exact ⟨rf, bl⟩

/-! ### head_byteful: function 88 -/
def head_byteful.l0 : Nat → ByteArray → Int → Int → Option (Bool)
 | 0, _, _, _ => none
 | k + 1, x0, x6, x7 => if x7 < x6 then (if 0 ≤ x7 then (if x7 < (x0.size : Int) then (if (bt x0 x7) = 9 then (head_byteful.l0 k x0 x6 (wrap64 (x7 + 1))) else (if (bt x0 x7) < 32 then (some false) else (if (bt x0 x7) = 127 then (some false) else (head_byteful.l0 k x0 x6 (wrap64 (x7 + 1)))))) else (none)) else (none)) else (some true)
def head_byteful.f (k : Nat) (a0 : ByteArray) : Option (Bool) := head_byteful.l0 k a0 (a0.size : Int) 0
theorem head_byteful.mono_l : ∀ k, (∀ y0 y1 y2, LeO (head_byteful.l0 k y0 y1 y2) (head_byteful.l0 (k + 1) y0 y1 y2))
 | 0 => fun _ _ _ r h => by simp [head_byteful.l0] at h
 | k + 1 => by
  have ih0 := head_byteful.mono_l k
  ·intro y0 y1 y2
   unfold head_byteful.l0
   repeat' first
   | (with_reducible first | exact ih0 _ _ _ | exact LeO.refl _ | exact LeO.none _ | refine LeO.ite ?_ ?_ | refine LeO.bind ?_ (fun _ => ?_))
theorem head_byteful.mono : ∀ a0 k, LeO (head_byteful.f k a0) (head_byteful.f (k + 1) a0) := by
 intro a0 k
 have ih0 := head_byteful.mono_l k
 unfold head_byteful.f
 repeat' first
   | (with_reducible first | exact ih0 _ _ _ | exact LeO.refl _ | exact LeO.none _ | refine LeO.ite ?_ ?_ | refine LeO.bind ?_ (fun _ => ?_))
theorem head_byteful.calls (k : Nat) (a0 : ByteArray) (r : Bool) (w : World) (h : head_byteful.f k a0 = some r) :
  Calls Tryz.prog 88 #[.string a0] w fun e w' => e = .returned (.bool r) ∧ Drawn0 w w' := by
 have H : (head_byteful.l0 k a0 (a0.size : Int) 0) = some r := h
 clear h
 have H' := Aside0.mk H
 clear H
 go_enter Tryz.func88, Tryz.ntmps88
 go_wp2
 go_loopg [7] k (fun kq v7 w' => ∃ (x7_1 : Int), v7 = .int .i64 x7_1 ∧ Aside0 (head_byteful.l0 kq a0 (a0.size : Int) x7_1 = some r) ∧ Aside0 (kq ≤ k) ∧ Drawn0 w w')
 case atStart => exact ⟨(0), rs, H', ⟨Nat.le_refl _⟩, dr⟩
 case round =>
  clear H'
  obtain ⟨x7_1, rfl, HA, HK1, ⟨m1, rfl⟩⟩ := hrel
  cases gk with
  | zero => exact absurd HA.out (by simp [head_byteful.l0])
  | succ k1 =>
   have H := HA.out
   clear HA
   simp only [head_byteful.l0] at H
   by_cases c2 : x7_1 < (a0.size : Int)
   ·rw [if_pos c2] at H
    have c2b0 : decide (x7_1 < (a0.size : Int)) = true := decide_eq_true c2
    clear c2
    by_cases c3 : 0 ≤ x7_1
    rotate_left
    ·rw [if_neg c3] at H
     exact ab H
    rw [if_pos c3] at H
    have c3b0 : decide (0 ≤ x7_1) = true := decide_eq_true c3
    clear c3
    by_cases c4 : x7_1 < (a0.size : Int)
    rotate_left
    ·rw [if_neg c4] at H
     exact ab H
    rw [if_pos c4] at H
    have c4b0 : decide (x7_1 < (a0.size : Int)) = true := decide_eq_true c4
    clear c4
    by_cases c6 : (bt a0 x7_1) = 9
    ·rw [if_pos c6] at H
     have c6b0 : ((bt a0 x7_1) == 9) = true := beq_iff_eq.mpr c6
     have c6b1 : ((bt a0 x7_1) != 9) = false := bne_eq_false_iff_eq.mpr c6
     clear c6
     have H' := Aside0.mk H
     clear H
     have p5 : 0 ≤ (x7_1 : Int) := od
     have q5 : x7_1 < (a0.size : Int) := od
     have hx5 := bt_at a0 x7_1
     replace p5 := eq_true p5
     replace q5 := eq_true q5
     go_wp2
     go_roundg k1
     case measure => have := HK1.out; omega
     case rel => exact ⟨(wrap64 (x7_1 + 1)), rs, H', ⟨by have := HK1.out; omega⟩, dr⟩
    ·rw [if_neg c6] at H
     have c6b0 : ((bt a0 x7_1) == 9) = false := beq_eq_false_iff_ne.mpr c6
     have c6b1 : ((bt a0 x7_1) != 9) = true := bne_iff_ne.mpr c6
     by_cases c7 : (bt a0 x7_1) < 32
     ·rw [if_pos c7] at H
      have c7b0 : decide ((bt a0 x7_1) < 32) = true := decide_eq_true c7
      clear c7
      obtain rfl := Option.some.inj H
      have p5 : 0 ≤ (x7_1 : Int) := od
      have q5 : x7_1 < (a0.size : Int) := od
      have hx5 := bt_at a0 x7_1
      replace p5 := eq_true p5
      replace q5 := eq_true q5
      go_wp2
      go_ret
      exact ⟨by first | rfl | (simp [bneNil]; done) | (simp; done) | (simp [*]; done), dr⟩
     ·rw [if_neg c7] at H
      have c7b0 : decide ((bt a0 x7_1) < 32) = false := decide_eq_false c7
      clear c7
      by_cases c8 : (bt a0 x7_1) = 127
      ·rw [if_pos c8] at H
       have c8b0 : ((bt a0 x7_1) == 127) = true := beq_iff_eq.mpr c8
       have c8b1 : ((bt a0 x7_1) != 127) = false := bne_eq_false_iff_eq.mpr c8
       clear c8
       obtain rfl := Option.some.inj H
       have p5 : 0 ≤ (x7_1 : Int) := od
       have q5 : x7_1 < (a0.size : Int) := od
       have hx5 := bt_at a0 x7_1
       replace p5 := eq_true p5
       replace q5 := eq_true q5
       go_wp2
       go_ret
       exact ⟨by first | rfl | (simp [bneNil]; done) | (simp; done) | (simp [*]; done), dr⟩
      ·rw [if_neg c8] at H
       have c8b0 : ((bt a0 x7_1) == 127) = false := beq_eq_false_iff_ne.mpr c8
       have c8b1 : ((bt a0 x7_1) != 127) = true := bne_iff_ne.mpr c8
       have H' := Aside0.mk H
       clear H
       have p5 : 0 ≤ (x7_1 : Int) := od
       have q5 : x7_1 < (a0.size : Int) := od
       have hx5 := bt_at a0 x7_1
       replace p5 := eq_true p5
       replace q5 := eq_true q5
       go_wp2
       go_roundg k1
       case measure => have := HK1.out; omega
       case rel => exact ⟨(wrap64 (x7_1 + 1)), rs, H', ⟨by have := HK1.out; omega⟩, dr⟩
   ·rw [if_neg c2] at H
    have c2b0 : decide (x7_1 < (a0.size : Int)) = false := decide_eq_false c2
    clear c2
    obtain rfl := Option.some.inj H
    go_wp2
    go_ret
    exact ⟨by first | rfl | (simp [bneNil]; done) | (simp; done) | (simp [*]; done), dr⟩

/-! ### head_lines_1: function 87 -/
def head_lines_1.f (k : Nat) (a0 : ByteArray) : Option (Bool) := (head_byteful.f k a0).bind fun t310 => (some (!t310))
theorem head_lines_1.mono : ∀ a0 k, LeO (head_lines_1.f k a0) (head_lines_1.f (k + 1) a0) := by
 intro a0 k
 unfold head_lines_1.f
 repeat' first
   | (with_reducible first | exact head_byteful.mono _ _ | exact LeO.refl _ | exact LeO.none _ | refine LeO.ite ?_ ?_ | refine LeO.bind ?_ (fun _ => ?_))
theorem head_lines_1.calls (k : Nat) (a0 : ByteArray) (r : Bool) (w : World) (h : head_lines_1.f k a0 = some r) :
  Calls Tryz.prog 87 #[.string a0] w fun e w' => e = .returned (.bool r) ∧ Drawn0 w w' := by
 have H : ((head_byteful.f k a0).bind fun t310 => (some (!t310))) = some r := h
 clear h
 obtain ⟨t310, A20, H⟩ := Option.bind_eq_some_iff.mp H
 replace H : (some (!t310)) = some r := H
 have A2 := Aside0.mk A20
 clear A20
 obtain rfl := Option.some.inj H
 go_enter Tryz.func87, Tryz.ntmps87
 go_wp2_with (first | ((with_reducible refine gate_callee (f := 88) rfl ?_); refine goesL_ (some 4) rfl rfl Tryz.func88 kf rfl #[.string a0] rfl ml ?_; (with_reducible refine (head_byteful.calls k a0 t310 _ A2.out).mono ?_); rintro e w' ⟨rfl, ⟨nd, rfl⟩⟩; refine ⟨_, rfl, ?_⟩))
 go_ret
 exact ⟨by first | rfl | (simp [bneNil]; done) | (simp; done) | (simp [*]; done), dr⟩

/-! ### slices_ContainsFunc_string_string__head_lines_1: function 86 with function 87 (by hand) -/
def slices_ContainsFunc_string_string__head_lines_1.f (k : Nat) (l0 : List ByteArray) : Option Bool := anyF (fun x => head_lines_1.f k x) l0
theorem slices_ContainsFunc_string_string__head_lines_1.mono : ∀ l0 k, LeO (slices_ContainsFunc_string_string__head_lines_1.f k l0) (slices_ContainsFunc_string_string__head_lines_1.f (k + 1) l0) := fun l0 k => anyF_mono (fun x => head_lines_1.mono x k) l0
theorem slices_ContainsFunc_string_string__head_lines_1.idx (k : Nat) (l : List ByteArray) (r : Bool) (hl : l.length ≤ 9223372036854775807) (A : Option Addr) (c : Nat) (w : World) (hC : ReadsOf Value.string ByteArray.empty w A l.length l) (h : slices_ContainsFunc_string_string__head_lines_1.f k l = some r) :
    Calls Tryz.prog 140 #[.slice A l.length c, .func (.func 87) #[] #[]] w (IdxPost r w) := by
  have HC := Lib.hid hC
  have h' : Aside0 (anyF (fun x => head_lines_1.f k x) (l.drop 0) = some r) := ⟨h⟩
  clear hC h
  go_enter Tryz.func140, Tryz.ntmps140
  go_wp2
  go_loopw [8] (fun v8 w' => ∃ j : Nat, v8 = .int .i64 j ∧ j ≤ l.length ∧ Aside0 (anyF (fun x => head_lines_1.f k x) (l.drop j) = some r) ∧ Aside0 (Below w.heap.size w w')) (fun v8 _ => l.length - (intOf v8).toNat)
  case atStart => exact ⟨0, rfl, Nat.zero_le _, h', ⟨Below.refl _ _⟩⟩
  case round =>
    obtain ⟨j, rfl, hj, Hall, HB⟩ := hrel
    by_cases hlt : j < l.length
    · obtain ⟨ad, hA, hcell⟩ := (HC.out.below HB.out).at_ (j : Int) (by omega) (by omega)
      rw [Int.toNat_natCast] at hcell
      have ex : rdOf ByteArray.empty l (j : Int) = l[j]'hlt := by simp [rdOf, hlt]
      rw [ex] at hcell
      clear ex
      have hd := Hall.out
      rw [List.drop_eq_getElem_cons hlt] at hd
      obtain ⟨b, hb, hrest⟩ := anyF_cons hd
      have Hb := Lib.hid hb
      clear hb hd
      obtain ⟨x, hx⟩ : ∃ x : ByteArray, x = l[j]'hlt := ⟨_, rfl⟩
      rw [← hx] at hcell Hb
      clear hx
      rcases hrest with ⟨rfl, hr⟩ | ⟨rfl, hr⟩
      · have Hr := Lib.hid hr
        clear hr
        subst hA
        go_wp2_with (refine ((head_lines_1.calls k x true _ Hb.out)).mono ?_; rintro e w1 ⟨rfl, hd1⟩; have HB1 := Lib.hid hd1.below; clear hd1)
        go_ret
        refine ⟨(j : Int), rfl, ?_, HB.out.trans (HB1.out.mono HB.out.size)⟩
        rw [Hr.out]
        exact decide_eq_true (by omega)
      · have Hr := Aside0.mk hr
        clear hr
        subst hA
        go_wp2_with (refine ((head_lines_1.calls k x false _ Hb.out)).mono ?_; rintro e w1 ⟨rfl, hd1⟩; have HB1 := Lib.hid hd1.below; clear hd1)
        go_roundw
        case rel => exact ⟨j + 1, by go_num, hlt, Hr, ⟨HB.out.trans (HB1.out.mono HB.out.size)⟩⟩
        case measure => simp [intOf]; omega
    · go_wp2
      go_ret
      have hd := Hall.out
      rw [List.drop_of_length_le (by omega)] at hd
      have hr : false = r := Option.some.inj hd
      refine ⟨-1, rfl, ?_, HB.out⟩
      rw [← hr]; rfl
theorem slices_ContainsFunc_string_string__head_lines_1.calls (k : Nat) (A0 : Option Addr) (c0 : Nat) (l0 : List ByteArray) (r : Bool) (w : World) (hr0 : Kd.C Kd.string w A0 l0.length l0) (hc0 : l0.length ≤ c0) (h : slices_ContainsFunc_string_string__head_lines_1.f k l0 = some r) :
    Calls Tryz.prog 86 #[.slice A0 l0.length c0, .func (.func 87) #[] #[]] w fun e w' => e = .returned (.bool r) ∧ Below w.heap.size w w' := by
  have hrd : ReadsOf Value.string ByteArray.empty w A0 l0.length l0 := Kd.reads_of_C hr0
  have HI := Lib.hid (slices_ContainsFunc_string_string__head_lines_1.idx k l0 r hrd.2.1 A0 c0 w hrd h)
  clear hrd hr0 h
  go_enter Tryz.func86, Tryz.ntmps86
  go_wp2_with (go_at_call 140; refine HI.out.mono ?_; rintro e w1 ⟨i, rfl, hi, hb⟩; have HB1 := Lib.hid hb; clear hb; have Hi := Lib.hid hi; clear hi)
  go_ret
  exact ⟨by have hi := Hi.out; simp [hi], HB1.out⟩


/-! ### head_lines: function 47 -/
def head_lines.f (k : Nat) (a0 : ByteArray) : Option (List ByteArray × Bool) := if a0.toList = ([] : List UInt8) then (some (([] : List ByteArray), true)) else ((strings_CutSuffix.f a0 (⟨#[13, 10]⟩ : ByteArray)).bind fun bt311 => ((strings_Split.f bt311.1 (⟨#[13, 10]⟩ : ByteArray)).bind fun t313 => (if bt311.2 = true then ((slices_ContainsFunc_string_string__head_lines_1.f k t313).bind fun t316 => (some (t313, !t316))) else (some (t313, false)))))
theorem head_lines.mono : ∀ a0 k, LeO (head_lines.f k a0) (head_lines.f (k + 1) a0) := by
 intro a0 k
 unfold head_lines.f
 repeat' first
   | (with_reducible first | exact slices_ContainsFunc_string_string__head_lines_1.mono _ _ | exact LeO.refl _ | exact LeO.none _ | refine LeO.ite ?_ ?_ | refine LeO.bind ?_ (fun _ => ?_))
theorem head_lines.calls (k : Nat) (a0 : ByteArray) (r1 : List ByteArray) (r2 : Bool) (w : World) (hG : Glob w) (h : head_lines.f k a0 = some (r1, r2)) :
  Calls Tryz.prog 47 #[.string a0] w fun e w' => ∃ v0_ : Value, e = .returned (.tuple #[v0_, .bool r2]) ∧ Kd.R Kd.string 9 w' w.heap.size (fun _ => True) v0_ r1 ∧ Below w.heap.size w w' := by
 have HB := Aside0.mk (Below.refl w.heap.size w)
 have HG := Aside0.mk hG
 clear hG
 have H : (if a0.toList = ([] : List UInt8) then (some (([] : List ByteArray), true)) else ((strings_CutSuffix.f a0 (⟨#[13, 10]⟩ : ByteArray)).bind fun bt311 => ((strings_Split.f bt311.1 (⟨#[13, 10]⟩ : ByteArray)).bind fun t313 => (if bt311.2 = true then ((slices_ContainsFunc_string_string__head_lines_1.f k t313).bind fun t316 => (some (t313, !t316))) else (some (t313, false)))))) = some (r1, r2) := h
 clear h
 by_cases c2 : a0.toList = ([] : List UInt8)
 ·rw [if_pos c2] at H
  have c2b0 : (a0.toList == ([] : List UInt8)) = true := beq_iff_eq.mpr c2
  have c2b1 : (a0.toList != ([] : List UInt8)) = false := bne_eq_false_iff_eq.mpr c2
  clear c2
  simp only [Option.some.injEq, Prod.mk.injEq] at H
  obtain ⟨rfl, rfl⟩ := H
  go_enter Tryz.func47, Tryz.ntmps47
  go_wp2
  go_ret2
  exact ⟨_, by first | rfl | (simp [errW_none, errW_some] <;> rfl) | (simp [*, errW_none, errW_some] <;> rfl), by first | exact Kd.R_nil _ _ _ _ _ | exact Kd.N_nil _ _ _ _ _ | exact Kd.V_nil _ _ _ _ _ | exact Kd.Q_nil _ _ _ _ _ | exact Kd.S_nil _ _ _ _ _, bl⟩
 ·rw [if_neg c2] at H
  have c2b0 : (a0.toList == ([] : List UInt8)) = false := beq_eq_false_iff_ne.mpr c2
  have c2b1 : (a0.toList != ([] : List UInt8)) = true := bne_iff_ne.mpr c2
  obtain ⟨⟨t311, t312⟩, A30, H⟩ := Option.bind_eq_some_iff.mp H
  replace H : ((strings_Split.f t311 (⟨#[13, 10]⟩ : ByteArray)).bind fun t313 => (if t312 = true then ((slices_ContainsFunc_string_string__head_lines_1.f k t313).bind fun t316 => (some (t313, !t316))) else (some (t313, false)))) = some (r1, r2) := H
  have A3 := Aside0.mk A30
  clear A30
  obtain ⟨t313, A40, H⟩ := Option.bind_eq_some_iff.mp H
  replace H : (if t312 = true then ((slices_ContainsFunc_string_string__head_lines_1.f k t313).bind fun t316 => (some (t313, !t316))) else (some (t313, false))) = some (r1, r2) := H
  have A4 := Aside0.mk A40
  clear A40
  by_cases c5 : t312 = true
  ·subst c5
   replace H : ((slices_ContainsFunc_string_string__head_lines_1.f k t313).bind fun t316 => (some (t313, !t316))) = some (r1, r2) := by rw [if_pos rfl] at H; exact H
   obtain ⟨t316, A60, H⟩ := Option.bind_eq_some_iff.mp H
   replace H : (some (t313, !t316)) = some (r1, r2) := H
   have A6 := Aside0.mk A60
   clear A60
   simp only [Option.some.injEq, Prod.mk.injEq] at H
   obtain ⟨rfl, rfl⟩ := H
   go_enter Tryz.func47, Tryz.ntmps47
   go_wp2_with (first | ((with_reducible refine gate_callee (f := 84) rfl ?_); refine goesL_ (some 11) rfl rfl Tryz.func84 kf rfl #[.string a0, .string (⟨#[13, 10]⟩ : ByteArray)] rfl ml ?_; (with_reducible refine (strings_CutSuffix.calls a0 (⟨#[13, 10]⟩ : ByteArray) t311 true _ A3.out).mono ?_); rintro e w' ⟨rfl, ⟨nd, rfl⟩⟩; refine ⟨_, rfl, ?_⟩) | ((with_reducible refine gate_callee (f := 85) rfl ?_); refine goesL_ (some 15) rfl rfl Tryz.func85 kf rfl #[.string t311, .string (⟨#[13, 10]⟩ : ByteArray)] rfl ml ?_; (with_reducible refine (strings_Split.calls t311 (⟨#[13, 10]⟩ : ByteArray) t313 _ ?side1 A4.out).mono ?_); (case side1 => exact Glob.below HG.out bl); rintro e w7 ⟨v314, rfl, ho0, hb⟩; refine ⟨_, rfl, ?_⟩; have HO315 := Aside0.mk (Kd.R_lower ho0 (below_size bl)); replace HB := Aside0.mk (below_step bl hb); (try clear hb); (try clear hb2); (try clear hk); (try clear hi); (try clear ho0); obtain ⟨Ao8, co8, eo8⟩ := Kd.R_slice HO315.out; subst eo8) | (go_at_call 86; (with_reducible refine (slices_ContainsFunc_string_string__head_lines_1.calls k _ _ t313 t316 _ ?side1 ?side2 A6.out).mono ?_); (case side1 => repeat (first | exact (Kd.R_reads' HO315.out).2.2 | (with_reducible refine Kd.C_alloc ?_ _) | (with_reducible refine Kd.C_drewN ?_ _) | (with_reducible refine Kd.C_drew ?_))); (case side2 => exact (Kd.R_reads' HO315.out).2.1); rintro e w9 ⟨rfl, hb⟩; replace HO315 := Aside0.mk (Kd.R_below (kr HO315.out) hb); replace HB := Aside0.mk (below_step bl hb); (try clear hb); (try clear hb2); (try clear hk); (try clear hi)))
   go_ret2
   exact ⟨_, by first | rfl | (simp [errW_none, errW_some] <;> rfl) | (simp [*, errW_none, errW_some] <;> rfl), kr HO315.out, bl⟩
  ·replace c5 := Bool.eq_false_iff.mpr c5
   subst c5
   replace H : (some (t313, false)) = some (r1, r2) := by rw [if_neg (show ¬ (false = true) by decide)] at H; exact H
   simp only [Option.some.injEq, Prod.mk.injEq] at H
   obtain ⟨rfl, rfl⟩ := H
   go_enter Tryz.func47, Tryz.ntmps47
   go_wp2_with (first | ((with_reducible refine gate_callee (f := 84) rfl ?_); refine goesL_ (some 11) rfl rfl Tryz.func84 kf rfl #[.string a0, .string (⟨#[13, 10]⟩ : ByteArray)] rfl ml ?_; (with_reducible refine (strings_CutSuffix.calls a0 (⟨#[13, 10]⟩ : ByteArray) t311 false _ A3.out).mono ?_); rintro e w' ⟨rfl, ⟨nd, rfl⟩⟩; refine ⟨_, rfl, ?_⟩) | ((with_reducible refine gate_callee (f := 85) rfl ?_); refine goesL_ (some 15) rfl rfl Tryz.func85 kf rfl #[.string t311, .string (⟨#[13, 10]⟩ : ByteArray)] rfl ml ?_; (with_reducible refine (strings_Split.calls t311 (⟨#[13, 10]⟩ : ByteArray) t313 _ ?side1 A4.out).mono ?_); (case side1 => exact Glob.below HG.out bl); rintro e w10 ⟨v314, rfl, ho0, hb⟩; refine ⟨_, rfl, ?_⟩; have HO315 := Aside0.mk (Kd.R_lower ho0 (below_size bl)); replace HB := Aside0.mk (below_step bl hb); (try clear hb); (try clear hb2); (try clear hk); (try clear hi); (try clear ho0)))
   go_ret2
   exact ⟨_, by first | rfl | (simp [errW_none, errW_some] <;> rfl) | (simp [*, errW_none, errW_some] <;> rfl), kr HO315.out, bl⟩

/-! ### slices_Index_string_string: function 48 (by hand) -/
def slices_Index_string_string.f (l0 : List ByteArray) (a1 : ByteArray) : Option Int := some (Lib.idxOfS l0 a1)
theorem slices_Index_string_string.calls (A0 : Option Addr) (c0 : Nat) (l0 : List ByteArray) (a1 : ByteArray) (r : Int) (w : World) (hr0 : Kd.C Kd.string w A0 l0.length l0) (hc0 : l0.length ≤ c0) (h : slices_Index_string_string.f l0 a1 = some r) :
    Calls Tryz.prog 48 #[.slice A0 l0.length c0, .string a1] w fun e w' => e = .returned (.int .i64 r) ∧ Drawn0 w w' := by
  obtain rfl := Option.some.inj h
  by_cases hl : l0 = []
  · subst hl
    refine (Tryz.slices_Index_string_empty A0 c0 a1 w).mono ?_
    rintro e w' ⟨rfl, rfl⟩
    exact ⟨rfl, Drawn0.refl _⟩
  · obtain ⟨bk, o, rfl, hbk, hc⟩ := cells_at hr0 (List.length_pos_iff.2 hl)
    have hrd : ReadsOf Value.string ByteArray.empty w (some ⟨bk, o, none⟩) l0.length l0 := Kd.reads_of_C hr0
    refine (Tryz.slices_Index_string bk o l0.length c0 l0 a1 w (Nat.le_refl _) hrd.2.1 (fun j hj => ?_)).mono ?_
    · rw [hc j (l0[j]'hj) (List.getElem?_eq_getElem hj)]
      simp [List.getD, hj]
    · rintro e w' ⟨rfl, rfl⟩
      rw [List.take_of_length_le (Nat.le_refl _)]
      exact ⟨rfl, Drawn0.refl _⟩


end Go.Proofs.YtacjnapgdikhbaaGreatDoor.Q
end
section
namespace Go.Proofs.YtacjnapgdikhbaaGreatDoor.Q

theorem eqA52 (d : Nat) (w : World) (x0 y0 : ByteArray) (x1 y1 : ByteArray) (x2 y2 : Int) (x3 y3 : ByteArray) :
    (Op.equalIn (d + 3) 52 (.agg #[.string x0, .string x1, .int .i64 x2, .string x3]) (.agg #[.string y0, .string y1, .int .i64 y2, .string y3])).run Tryz.prog w = .ok ((x0.toList == y0.toList && (x1.toList == y1.toList)) && (x2 == y2 && (x3.toList == y3.toList))) w := by
  refine eqA_of Tryz.underlying52 kf ?_
  refine eqf_cons (by rfl) (by go_simp) (by go_simp) (eqA50 (d + 0) w _ _ _ _) ?_
  refine eqf_cons (by rfl) (by go_simp; rfl) (by go_simp; rfl) (by go_simp) ?_
  exact eqf_last (by rfl) (by go_simp; rfl) (by go_simp; rfl) (by go_simp)
end Go.Proofs.YtacjnapgdikhbaaGreatDoor.Q
end
section
namespace Go.Proofs.YtacjnapgdikhbaaGreatDoor.Q

/-! ### head_white: function 49 -/
def head_white.f (a0 : ByteArray) : Option (Bool) := if a0.toList = ([] : List UInt8) then (some false) else (if 0 < (a0.size : Int) then (if (bt a0 0) = 32 then (some true) else (some ((bt a0 0) == 9))) else (none))
theorem head_white.calls (a0 : ByteArray) (r : Bool) (w : World) (h : head_white.f a0 = some r) :
  Calls Tryz.prog 49 #[.string a0] w fun e w' => e = .returned (.bool r) ∧ Drawn0 w w' := by
 have H : (if a0.toList = ([] : List UInt8) then (some false) else (if 0 < (a0.size : Int) then (if (bt a0 0) = 32 then (some true) else (some ((bt a0 0) == 9))) else (none))) = some r := h
 clear h
 by_cases c2 : a0.toList = ([] : List UInt8)
 ·rw [if_pos c2] at H
  have c2b0 : (a0.toList == ([] : List UInt8)) = true := beq_iff_eq.mpr c2
  have c2b1 : (a0.toList != ([] : List UInt8)) = false := bne_eq_false_iff_eq.mpr c2
  clear c2
  obtain rfl := Option.some.inj H
  go_enter Tryz.func49, Tryz.ntmps49
  go_wp2
  go_ret
  exact ⟨by first | rfl | (simp [bneNil]; done) | (simp; done) | (simp [*]; done), dr⟩
 ·rw [if_neg c2] at H
  have c2b0 : (a0.toList == ([] : List UInt8)) = false := beq_eq_false_iff_ne.mpr c2
  have c2b1 : (a0.toList != ([] : List UInt8)) = true := bne_iff_ne.mpr c2
  by_cases c3 : 0 < (a0.size : Int)
  rotate_left
  ·rw [if_neg c3] at H
   exact ab H
  rw [if_pos c3] at H
  have c3b0 : decide (0 < (a0.size : Int)) = true := decide_eq_true c3
  have c3b1 : decide (0 < a0.size) = true := decide_eq_true (by omega)
  clear c3
  by_cases c5 : (bt a0 0) = 32
  ·rw [if_pos c5] at H
   have c5b0 : ((bt a0 0) == 32) = true := beq_iff_eq.mpr c5
   have c5b1 : ((bt a0 0) != 32) = false := bne_eq_false_iff_eq.mpr c5
   clear c5
   obtain rfl := Option.some.inj H
   have p4 : 0 ≤ (0 : Int) := (by omega)
   have q4 : 0 < a0.size := (by have : (0 : Int) < (a0.size : Int) := od; omega)
   have hx4 : ∀ h : 0 < a0.size, ((a0[0]'h).toNat : Int) = bt a0 0 := bt_at a0 0
   clear p4
   have qi4 : (0 < (a0.size : Int)) = True := eq_true (od)
   replace q4 := eq_true q4
   go_enter Tryz.func49, Tryz.ntmps49
   go_wp2
   go_ret
   exact ⟨by first | rfl | (simp [bneNil]; done) | (simp; done) | (simp [*]; done), dr⟩
  ·rw [if_neg c5] at H
   have c5b0 : ((bt a0 0) == 32) = false := beq_eq_false_iff_ne.mpr c5
   have c5b1 : ((bt a0 0) != 32) = true := bne_iff_ne.mpr c5
   obtain rfl := Option.some.inj H
   have p4 : 0 ≤ (0 : Int) := (by omega)
   have q4 : 0 < a0.size := (by have : (0 : Int) < (a0.size : Int) := od; omega)
   have hx4 : ∀ h : 0 < a0.size, ((a0[0]'h).toNat : Int) = bt a0 0 := bt_at a0 0
   clear p4
   have qi4 : (0 < (a0.size : Int)) = True := eq_true (od)
   replace q4 := eq_true q4
   have p6 : 0 ≤ (0 : Int) := (by omega)
   have q6 : 0 < a0.size := (by have : (0 : Int) < (a0.size : Int) := od; omega)
   have hx6 : ∀ h : 0 < a0.size, ((a0[0]'h).toNat : Int) = bt a0 0 := bt_at a0 0
   clear p6
   have qi6 : (0 < (a0.size : Int)) = True := eq_true (od)
   replace q6 := eq_true q6
   go_enter Tryz.func49, Tryz.ntmps49
   go_wp2
   go_ret
   exact ⟨by first | rfl | (simp [bneNil]; done) | (simp; done) | (simp [*]; done), dr⟩

/-! ### strings_Cut: function 89 (by hand) -/
def strings_Cut.f (a0 a1 : ByteArray) : Option (ByteArray × ByteArray × Bool) := if a0.size < 4294967281 then some (⟨(Lib.cut a0.data.toList a1.data.toList).1.toArray⟩, ⟨(Lib.cut a0.data.toList a1.data.toList).2.1.toArray⟩, (Lib.cut a0.data.toList a1.data.toList).2.2) else none
theorem strings_Cut.calls (a0 a1 : ByteArray) (r1 r2 : ByteArray) (r3 : Bool) (w : World) (hG : Glob w) (h : strings_Cut.f a0 a1 = some (r1, r2, r3)) :
    Calls Tryz.prog 89 #[.string a0, .string a1] w fun e w' => e = .returned (.tuple #[.string r1, .string r2, .bool r3]) ∧ Drawn0 w w' := by
  unfold strings_Cut.f at h
  split at h
  · rename_i hs
    simp only [Option.some.injEq, Prod.mk.injEq] at h
    obtain ⟨rfl, rfl, rfl⟩ := h
    obtain ⟨m, hm⟩ := hG.mx
    refine (Tryz.strings_Cut a0 a1 m w hs hm).mono ?_
    rintro e w' ⟨rfl, nd, rfl⟩
    exact ⟨rfl, ⟨nd, rfl⟩⟩
  · cases h


/-! ### strings_Join: function 90 (by hand) -/
def strings_Join.f (l0 : List ByteArray) (a1 : ByteArray) : Option ByteArray := match l0 with
  | [] => none
  | x :: t => if (x :: t).length ≤ 140737488355328 ∧ (Lib.join ((x :: t).map (·.data.toList)) a1.data.toList).length ≤ 140737488355328 then some ⟨(Lib.join ((x :: t).map (·.data.toList)) a1.data.toList).toArray⟩ else none
theorem join_cells {w : World} {A : Option Addr} {l : List ByteArray} (h : Kd.C Kd.string w A l.length l) (hl : 0 < l.length) : ∃ bk o, A = some ⟨bk, o, none⟩ ∧ bk < w.heap.size ∧ ∀ (j : Nat) x, l[j]? = some x → w.cell? ⟨bk, o + j, none⟩ = some (.string x) := by
  obtain ⟨_, _, h3⟩ : ReadsOf Value.string ByteArray.empty w A l.length l := Kd.reads_of_C h
  obtain ⟨⟨bk, o, sp⟩, rfl, hc⟩ := h3 hl
  have hsp : sp = none := by
    have h0 := hc 0 hl
    have := World.block_lt_of_cell? w _ h0
    cases sp with
    | none => rfl
    | some q =>
      exfalso
      unfold Addr.add at h0
      simp [World.cell?] at h0
      revert h0
      split <;> simp
  subst hsp
  refine ⟨bk, o, rfl, World.block_lt_of_cell? w _ (hc 0 hl), ?_⟩
  intro j x hj
  have hj' : j < l.length := (List.getElem?_eq_some_iff.1 hj).1
  have := hc j hj'
  have e : (⟨bk, o, none⟩ : Addr).add j = ⟨bk, o + j, none⟩ := by unfold Addr.add; split <;> simp_all
  rw [e] at this
  rw [this, List.getD_eq_getElem?_getD, hj]; rfl
theorem strings_Join.calls (A0 : Option Addr) (c0 : Nat) (l0 : List ByteArray) (a1 : ByteArray) (r : ByteArray) (w : World) (hr0 : Kd.C Kd.string w A0 l0.length l0) (hc0 : l0.length ≤ c0) (h : strings_Join.f l0 a1 = some r) :
    Calls Tryz.prog 90 #[.slice A0 l0.length c0, .string a1] w fun e w' => e = .returned (.string r) ∧ Below w.heap.size w w' := by
  unfold strings_Join.f at h
  split at h
  · cases h
  · rename_i x t
    split at h
    · rename_i hb
      obtain rfl := Option.some.inj h
      obtain ⟨bk, o, rfl, hbk, hc⟩ := join_cells hr0 (by simp)
      exact Tryz.strings_Join bk o c0 (x :: t) a1 w hc hbk hb.1 hc0 hb.2
    · cases h


/-! ### text_Trim: function 91 -/
def text_Trim.f (a0 : ByteArray) : Option (ByteArray) := (strings_Trim.f a0 (⟨#[32, 9]⟩ : ByteArray)).bind fun t317 => (some t317)
theorem text_Trim.calls (a0 : ByteArray) (r : ByteArray) (w : World) (h : text_Trim.f a0 = some r) :
  Calls Tryz.prog 91 #[.string a0] w fun e w' => e = .returned (.string r) ∧ Below w.heap.size w w' := by
 have HB := Aside0.mk (Below.refl w.heap.size w)
 have H : ((strings_Trim.f a0 (⟨#[32, 9]⟩ : ByteArray)).bind fun t317 => (some t317)) = some r := h
 clear h
 obtain ⟨t317, A20, H⟩ := Option.bind_eq_some_iff.mp H
 replace H : (some t317) = some r := H
 have A2 := Aside0.mk A20
 clear A20
 obtain rfl := Option.some.inj H
 go_enter Tryz.func91, Tryz.ntmps91
 go_wp2_with (first | ((with_reducible refine gate_callee (f := 142) rfl ?_); refine goesL_ (some 4) rfl rfl Tryz.func142 kf rfl #[.string a0, .string (⟨#[32, 9]⟩ : ByteArray)] rfl ml ?_; (with_reducible refine (strings_Trim.calls a0 (⟨#[32, 9]⟩ : ByteArray) t317 _ A2.out).mono ?_); rintro e w3 ⟨rfl, hb⟩; refine ⟨_, rfl, ?_⟩; replace HB := Aside0.mk (below_step bl hb); (try clear hb); (try clear hb2); (try clear hk); (try clear hi)))
 go_ret
 exact ⟨rf, bl⟩

/-! ### strings_Contains: function 92 (by hand) -/
def strings_Contains.f (a0 a1 : ByteArray) : Option Bool := if a0.size < 4294967281 then some (Lib.contains a0.data.toList a1.data.toList) else none
theorem strings_Contains.calls (a0 a1 : ByteArray) (r : Bool) (w : World) (hG : Glob w) (h : strings_Contains.f a0 a1 = some r) :
    Calls Tryz.prog 92 #[.string a0, .string a1] w fun e w' => e = .returned (.bool r) ∧ Drawn0 w w' := by
  unfold strings_Contains.f at h
  split at h
  · rename_i hs
    obtain rfl := Option.some.inj h
    obtain ⟨m, hm⟩ := hG.mx
    refine (Tryz.strings_Contains a0 a1 m w hs hm).mono ?_
    rintro e w' ⟨rfl, rfl⟩
    exact ⟨rfl, Drawn0.refl _⟩
  · cases h


/-! ### head_named: function 93 -/
def head_named.l0 : Nat → ByteArray → Int → Int → Option (Bool)
 | 0, _, _, _ => none
 | k + 1, x0, x6, x7 => if x7 < x6 then (if 0 ≤ x7 then (if x7 < (x0.size : Int) then (if (bt x0 x7) ≤ 32 then (some false) else (if (bt x0 x7) > 126 then (some false) else (if (bt x0 x7) = 58 then (some false) else (head_named.l0 k x0 x6 (wrap64 (x7 + 1)))))) else (none)) else (none)) else (some (x0.toList != ([] : List UInt8)))
def head_named.f (k : Nat) (a0 : ByteArray) : Option (Bool) := head_named.l0 k a0 (a0.size : Int) 0
theorem head_named.mono_l : ∀ k, (∀ y0 y1 y2, LeO (head_named.l0 k y0 y1 y2) (head_named.l0 (k + 1) y0 y1 y2))
 | 0 => fun _ _ _ r h => by simp [head_named.l0] at h
 | k + 1 => by
  have ih0 := head_named.mono_l k
  ·intro y0 y1 y2
   unfold head_named.l0
   repeat' first
   | (with_reducible first | exact ih0 _ _ _ | exact LeO.refl _ | exact LeO.none _ | refine LeO.ite ?_ ?_ | refine LeO.bind ?_ (fun _ => ?_))
theorem head_named.mono : ∀ a0 k, LeO (head_named.f k a0) (head_named.f (k + 1) a0) := by
 intro a0 k
 have ih0 := head_named.mono_l k
 unfold head_named.f
 repeat' first
   | (with_reducible first | exact ih0 _ _ _ | exact LeO.refl _ | exact LeO.none _ | refine LeO.ite ?_ ?_ | refine LeO.bind ?_ (fun _ => ?_))
theorem head_named.calls (k : Nat) (a0 : ByteArray) (r : Bool) (w : World) (h : head_named.f k a0 = some r) :
  Calls Tryz.prog 93 #[.string a0] w fun e w' => e = .returned (.bool r) ∧ Drawn0 w w' := by
 have H : (head_named.l0 k a0 (a0.size : Int) 0) = some r := h
 clear h
 have H' := Aside0.mk H
 clear H
 go_enter Tryz.func93, Tryz.ntmps93
 go_wp2
 go_loopg [7] k (fun kq v7 w' => ∃ (x7_1 : Int), v7 = .int .i64 x7_1 ∧ Aside0 (head_named.l0 kq a0 (a0.size : Int) x7_1 = some r) ∧ Aside0 (kq ≤ k) ∧ Drawn0 w w')
 case atStart => exact ⟨(0), rs, H', ⟨Nat.le_refl _⟩, dr⟩
 case round =>
  clear H'
  obtain ⟨x7_1, rfl, HA, HK1, ⟨m1, rfl⟩⟩ := hrel
  cases gk with
  | zero => exact absurd HA.out (by simp [head_named.l0])
  | succ k1 =>
   have H := HA.out
   clear HA
   simp only [head_named.l0] at H
   by_cases c2 : x7_1 < (a0.size : Int)
   ·rw [if_pos c2] at H
    have c2b0 : decide (x7_1 < (a0.size : Int)) = true := decide_eq_true c2
    clear c2
    by_cases c3 : 0 ≤ x7_1
    rotate_left
    ·rw [if_neg c3] at H
     exact ab H
    rw [if_pos c3] at H
    have c3b0 : decide (0 ≤ x7_1) = true := decide_eq_true c3
    clear c3
    by_cases c4 : x7_1 < (a0.size : Int)
    rotate_left
    ·rw [if_neg c4] at H
     exact ab H
    rw [if_pos c4] at H
    have c4b0 : decide (x7_1 < (a0.size : Int)) = true := decide_eq_true c4
    clear c4
    by_cases c6 : (bt a0 x7_1) ≤ 32
    ·rw [if_pos c6] at H
     have c6b0 : decide ((bt a0 x7_1) ≤ 32) = true := decide_eq_true c6
     clear c6
     obtain rfl := Option.some.inj H
     have p5 : 0 ≤ (x7_1 : Int) := od
     have q5 : x7_1 < (a0.size : Int) := od
     have hx5 := bt_at a0 x7_1
     replace p5 := eq_true p5
     replace q5 := eq_true q5
     go_wp2
     go_ret
     exact ⟨by first | rfl | (simp [bneNil]; done) | (simp; done) | (simp [*]; done), dr⟩
    ·rw [if_neg c6] at H
     have c6b0 : decide ((bt a0 x7_1) ≤ 32) = false := decide_eq_false c6
     clear c6
     by_cases c7 : (bt a0 x7_1) > 126
     ·rw [if_pos c7] at H
      have c7b0 : decide (126 < (bt a0 x7_1)) = true := decide_eq_true c7
      clear c7
      obtain rfl := Option.some.inj H
      have p5 : 0 ≤ (x7_1 : Int) := od
      have q5 : x7_1 < (a0.size : Int) := od
      have hx5 := bt_at a0 x7_1
      replace p5 := eq_true p5
      replace q5 := eq_true q5
      go_wp2
      go_ret
      exact ⟨by first | rfl | (simp [bneNil]; done) | (simp; done) | (simp [*]; done), dr⟩
     ·rw [if_neg c7] at H
      have c7b0 : decide (126 < (bt a0 x7_1)) = false := decide_eq_false c7
      clear c7
      by_cases c8 : (bt a0 x7_1) = 58
      ·rw [if_pos c8] at H
       have c8b0 : ((bt a0 x7_1) == 58) = true := beq_iff_eq.mpr c8
       have c8b1 : ((bt a0 x7_1) != 58) = false := bne_eq_false_iff_eq.mpr c8
       clear c8
       obtain rfl := Option.some.inj H
       have p5 : 0 ≤ (x7_1 : Int) := od
       have q5 : x7_1 < (a0.size : Int) := od
       have hx5 := bt_at a0 x7_1
       replace p5 := eq_true p5
       replace q5 := eq_true q5
       go_wp2
       go_ret
       exact ⟨by first | rfl | (simp [bneNil]; done) | (simp; done) | (simp [*]; done), dr⟩
      ·rw [if_neg c8] at H
       have c8b0 : ((bt a0 x7_1) == 58) = false := beq_eq_false_iff_ne.mpr c8
       have c8b1 : ((bt a0 x7_1) != 58) = true := bne_iff_ne.mpr c8
       have H' := Aside0.mk H
       clear H
       have p5 : 0 ≤ (x7_1 : Int) := od
       have q5 : x7_1 < (a0.size : Int) := od
       have hx5 := bt_at a0 x7_1
       replace p5 := eq_true p5
       replace q5 := eq_true q5
       go_wp2
       go_roundg k1
       case measure => have := HK1.out; omega
       case rel => exact ⟨(wrap64 (x7_1 + 1)), rs, H', ⟨by have := HK1.out; omega⟩, dr⟩
   ·rw [if_neg c2] at H
    have c2b0 : decide (x7_1 < (a0.size : Int)) = false := decide_eq_false c2
    clear c2
    obtain rfl := Option.some.inj H
    go_wp2
    go_ret
    exact ⟨by first | rfl | (simp [bneNil]; done) | (simp; done) | (simp [*]; done), dr⟩

/-! ### head_field: function 50 -/
def head_field.f (k : Nat) (l0 : List ByteArray) : Option (ByteArray × ByteArray × ByteArray × Bool) := (strings_Join.f l0 (⟨#[]⟩ : ByteArray)).bind fun t319 => ((strings_Cut.f t319 (⟨#[58]⟩ : ByteArray)).bind fun bt320 => ((text_Trim.f bt320.1).bind fun t323 => (if 0 < (l0.length : Int) then ((strings_Contains.f (rdOf ByteArray.empty l0 0) (⟨#[58]⟩ : ByteArray)).bind fun t325 => ((text_Trim.f bt320.2.1).bind fun t326 => ((strings_Join.f l0 (⟨#[13, 10]⟩ : ByteArray)).bind fun t327 => (if t327.size + 2 ≤ 9223372036854775807 then (if bt320.2.2 = true then (if t325 = true then ((head_named.f k t323).bind fun t328 => (if t328 = true then ((strings_HasPrefix.f bt320.1 t323).bind fun t329 => (some (t323, t326, t327 ++ (⟨#[13, 10]⟩ : ByteArray), t329))) else (some (t323, t326, t327 ++ (⟨#[13, 10]⟩ : ByteArray), false)))) else (some (t323, t326, t327 ++ (⟨#[13, 10]⟩ : ByteArray), false))) else (some (t323, t326, t327 ++ (⟨#[13, 10]⟩ : ByteArray), false))) else (none))))) else (none))))
theorem head_field.mono : ∀ a0 k, LeO (head_field.f k a0) (head_field.f (k + 1) a0) := by
 intro a0 k
 unfold head_field.f
 repeat' first
   | (with_reducible first | exact head_named.mono _ _ | exact LeO.refl _ | exact LeO.none _ | refine LeO.ite ?_ ?_ | refine LeO.bind ?_ (fun _ => ?_))
theorem head_field.calls (k : Nat) (A0 : Option Addr) (c0 : Nat) (l0 : List ByteArray) (r1 : ByteArray) (r2 : ByteArray) (r3 : ByteArray) (r4 : Bool) (w : World) (hr0 : Kd.C Kd.string w A0 l0.length l0) (hc0 : l0.length ≤ c0) (hG : Glob w) (h : head_field.f k l0 = some (r1, r2, r3, r4)) :
  Calls Tryz.prog 50 #[.slice A0 l0.length c0] w fun e w' => e = .returned (.tuple #[.agg #[.string r1, .string r2, .string r3], .bool r4]) ∧ Below w.heap.size w w' := by
 have hu72 := Tryz.underlying72
 have HR0 := Aside0.mk hr0
 have HC0 := Aside0.mk hc0
 clear hr0 hc0
 have HB := Aside0.mk (Below.refl w.heap.size w)
 have HG := Aside0.mk hG
 clear hG
 have H : ((strings_Join.f l0 (⟨#[]⟩ : ByteArray)).bind fun t319 => ((strings_Cut.f t319 (⟨#[58]⟩ : ByteArray)).bind fun bt320 => ((text_Trim.f bt320.1).bind fun t323 => (if 0 < (l0.length : Int) then ((strings_Contains.f (rdOf ByteArray.empty l0 0) (⟨#[58]⟩ : ByteArray)).bind fun t325 => ((text_Trim.f bt320.2.1).bind fun t326 => ((strings_Join.f l0 (⟨#[13, 10]⟩ : ByteArray)).bind fun t327 => (if t327.size + 2 ≤ 9223372036854775807 then (if bt320.2.2 = true then (if t325 = true then ((head_named.f k t323).bind fun t328 => (if t328 = true then ((strings_HasPrefix.f bt320.1 t323).bind fun t329 => (some (t323, t326, t327 ++ (⟨#[13, 10]⟩ : ByteArray), t329))) else (some (t323, t326, t327 ++ (⟨#[13, 10]⟩ : ByteArray), false)))) else (some (t323, t326, t327 ++ (⟨#[13, 10]⟩ : ByteArray), false))) else (some (t323, t326, t327 ++ (⟨#[13, 10]⟩ : ByteArray), false))) else (none))))) else (none))))) = some (r1, r2, r3, r4) := h
 clear h
 obtain ⟨t319, A20, H⟩ := Option.bind_eq_some_iff.mp H
 replace H : ((strings_Cut.f t319 (⟨#[58]⟩ : ByteArray)).bind fun bt320 => ((text_Trim.f bt320.1).bind fun t323 => (if 0 < (l0.length : Int) then ((strings_Contains.f (rdOf ByteArray.empty l0 0) (⟨#[58]⟩ : ByteArray)).bind fun t325 => ((text_Trim.f bt320.2.1).bind fun t326 => ((strings_Join.f l0 (⟨#[13, 10]⟩ : ByteArray)).bind fun t327 => (if t327.size + 2 ≤ 9223372036854775807 then (if bt320.2.2 = true then (if t325 = true then ((head_named.f k t323).bind fun t328 => (if t328 = true then ((strings_HasPrefix.f bt320.1 t323).bind fun t329 => (some (t323, t326, t327 ++ (⟨#[13, 10]⟩ : ByteArray), t329))) else (some (t323, t326, t327 ++ (⟨#[13, 10]⟩ : ByteArray), false)))) else (some (t323, t326, t327 ++ (⟨#[13, 10]⟩ : ByteArray), false))) else (some (t323, t326, t327 ++ (⟨#[13, 10]⟩ : ByteArray), false))) else (none))))) else (none)))) = some (r1, r2, r3, r4) := H
 have A2 := Aside0.mk A20
 clear A20
 obtain ⟨⟨t320, t321, t322⟩, A30, H⟩ := Option.bind_eq_some_iff.mp H
 replace H : ((text_Trim.f t320).bind fun t323 => (if 0 < (l0.length : Int) then ((strings_Contains.f (rdOf ByteArray.empty l0 0) (⟨#[58]⟩ : ByteArray)).bind fun t325 => ((text_Trim.f t321).bind fun t326 => ((strings_Join.f l0 (⟨#[13, 10]⟩ : ByteArray)).bind fun t327 => (if t327.size + 2 ≤ 9223372036854775807 then (if t322 = true then (if t325 = true then ((head_named.f k t323).bind fun t328 => (if t328 = true then ((strings_HasPrefix.f t320 t323).bind fun t329 => (some (t323, t326, t327 ++ (⟨#[13, 10]⟩ : ByteArray), t329))) else (some (t323, t326, t327 ++ (⟨#[13, 10]⟩ : ByteArray), false)))) else (some (t323, t326, t327 ++ (⟨#[13, 10]⟩ : ByteArray), false))) else (some (t323, t326, t327 ++ (⟨#[13, 10]⟩ : ByteArray), false))) else (none))))) else (none))) = some (r1, r2, r3, r4) := H
 have A3 := Aside0.mk A30
 clear A30
 obtain ⟨t323, A40, H⟩ := Option.bind_eq_some_iff.mp H
 replace H : (if 0 < (l0.length : Int) then ((strings_Contains.f (rdOf ByteArray.empty l0 0) (⟨#[58]⟩ : ByteArray)).bind fun t325 => ((text_Trim.f t321).bind fun t326 => ((strings_Join.f l0 (⟨#[13, 10]⟩ : ByteArray)).bind fun t327 => (if t327.size + 2 ≤ 9223372036854775807 then (if t322 = true then (if t325 = true then ((head_named.f k t323).bind fun t328 => (if t328 = true then ((strings_HasPrefix.f t320 t323).bind fun t329 => (some (t323, t326, t327 ++ (⟨#[13, 10]⟩ : ByteArray), t329))) else (some (t323, t326, t327 ++ (⟨#[13, 10]⟩ : ByteArray), false)))) else (some (t323, t326, t327 ++ (⟨#[13, 10]⟩ : ByteArray), false))) else (some (t323, t326, t327 ++ (⟨#[13, 10]⟩ : ByteArray), false))) else (none))))) else (none)) = some (r1, r2, r3, r4) := H
 have A4 := Aside0.mk A40
 clear A40
 by_cases c5 : 0 < (l0.length : Int)
 rotate_left
 ·rw [if_neg c5] at H
  exact ab H
 rw [if_pos c5] at H
 have c5b0 : decide (0 < (l0.length : Int)) = true := decide_eq_true c5
 have c5b1 : decide (0 < l0.length) = true := decide_eq_true (by omega)
 clear c5
 obtain ⟨t325, A60, H⟩ := Option.bind_eq_some_iff.mp H
 replace H : ((text_Trim.f t321).bind fun t326 => ((strings_Join.f l0 (⟨#[13, 10]⟩ : ByteArray)).bind fun t327 => (if t327.size + 2 ≤ 9223372036854775807 then (if t322 = true then (if t325 = true then ((head_named.f k t323).bind fun t328 => (if t328 = true then ((strings_HasPrefix.f t320 t323).bind fun t329 => (some (t323, t326, t327 ++ (⟨#[13, 10]⟩ : ByteArray), t329))) else (some (t323, t326, t327 ++ (⟨#[13, 10]⟩ : ByteArray), false)))) else (some (t323, t326, t327 ++ (⟨#[13, 10]⟩ : ByteArray), false))) else (some (t323, t326, t327 ++ (⟨#[13, 10]⟩ : ByteArray), false))) else (none)))) = some (r1, r2, r3, r4) := H
 have A6 := Aside0.mk A60
 clear A60
 obtain ⟨t326, A70, H⟩ := Option.bind_eq_some_iff.mp H
 replace H : ((strings_Join.f l0 (⟨#[13, 10]⟩ : ByteArray)).bind fun t327 => (if t327.size + 2 ≤ 9223372036854775807 then (if t322 = true then (if t325 = true then ((head_named.f k t323).bind fun t328 => (if t328 = true then ((strings_HasPrefix.f t320 t323).bind fun t329 => (some (t323, t326, t327 ++ (⟨#[13, 10]⟩ : ByteArray), t329))) else (some (t323, t326, t327 ++ (⟨#[13, 10]⟩ : ByteArray), false)))) else (some (t323, t326, t327 ++ (⟨#[13, 10]⟩ : ByteArray), false))) else (some (t323, t326, t327 ++ (⟨#[13, 10]⟩ : ByteArray), false))) else (none))) = some (r1, r2, r3, r4) := H
 have A7 := Aside0.mk A70
 clear A70
 obtain ⟨t327, A80, H⟩ := Option.bind_eq_some_iff.mp H
 replace H : (if t327.size + 2 ≤ 9223372036854775807 then (if t322 = true then (if t325 = true then ((head_named.f k t323).bind fun t328 => (if t328 = true then ((strings_HasPrefix.f t320 t323).bind fun t329 => (some (t323, t326, t327 ++ (⟨#[13, 10]⟩ : ByteArray), t329))) else (some (t323, t326, t327 ++ (⟨#[13, 10]⟩ : ByteArray), false)))) else (some (t323, t326, t327 ++ (⟨#[13, 10]⟩ : ByteArray), false))) else (some (t323, t326, t327 ++ (⟨#[13, 10]⟩ : ByteArray), false))) else (none)) = some (r1, r2, r3, r4) := H
 have A8 := Aside0.mk A80
 clear A80
 by_cases c9 : t327.size + 2 ≤ 9223372036854775807
 rotate_left
 ·rw [if_neg c9] at H
  exact ab H
 rw [if_pos c9] at H
 have c9b0 := eq_true c9
 have c9b1 : decide (t327.size + 2 ≤ 9223372036854775807) = true := decide_eq_true c9
 try have c9b2 : (9223372036854775807 < t327.size + 2) = False := eq_false (Nat.not_lt.2 c9)
 by_cases c10 : t322 = true
 ·subst c10
  replace H : (if t325 = true then ((head_named.f k t323).bind fun t328 => (if t328 = true then ((strings_HasPrefix.f t320 t323).bind fun t329 => (some (t323, t326, t327 ++ (⟨#[13, 10]⟩ : ByteArray), t329))) else (some (t323, t326, t327 ++ (⟨#[13, 10]⟩ : ByteArray), false)))) else (some (t323, t326, t327 ++ (⟨#[13, 10]⟩ : ByteArray), false))) = some (r1, r2, r3, r4) := by rw [if_pos rfl] at H; exact H
  by_cases c11 : t325 = true
  ·subst c11
   replace H : ((head_named.f k t323).bind fun t328 => (if t328 = true then ((strings_HasPrefix.f t320 t323).bind fun t329 => (some (t323, t326, t327 ++ (⟨#[13, 10]⟩ : ByteArray), t329))) else (some (t323, t326, t327 ++ (⟨#[13, 10]⟩ : ByteArray), false)))) = some (r1, r2, r3, r4) := by rw [if_pos rfl] at H; exact H
   obtain ⟨t328, A120, H⟩ := Option.bind_eq_some_iff.mp H
   replace H : (if t328 = true then ((strings_HasPrefix.f t320 t323).bind fun t329 => (some (t323, t326, t327 ++ (⟨#[13, 10]⟩ : ByteArray), t329))) else (some (t323, t326, t327 ++ (⟨#[13, 10]⟩ : ByteArray), false))) = some (r1, r2, r3, r4) := H
   have A12 := Aside0.mk A120
   clear A120
   by_cases c13 : t328 = true
   ·subst c13
    replace H : ((strings_HasPrefix.f t320 t323).bind fun t329 => (some (t323, t326, t327 ++ (⟨#[13, 10]⟩ : ByteArray), t329))) = some (r1, r2, r3, r4) := by rw [if_pos rfl] at H; exact H
    obtain ⟨t329, A140, H⟩ := Option.bind_eq_some_iff.mp H
    replace H : (some (t323, t326, t327 ++ (⟨#[13, 10]⟩ : ByteArray), t329)) = some (r1, r2, r3, r4) := H
    have A14 := Aside0.mk A140
    clear A140
    simp only [Option.some.injEq, Prod.mk.injEq] at H
    obtain ⟨rfl, rfl, rfl, rfl⟩ := H
    go_enter Tryz.func50, Tryz.ntmps50
    go_wp2_with (first | ((with_reducible refine gate_dst (N := 2) rfl ?_); refine box_event ?hg (N := 2) ?hd (cs := #[.string (⟨#[]⟩ : ByteArray), .string (⟨#[]⟩ : ByteArray), .string (⟨#[]⟩ : ByteArray)]) (t := 72) ?hr ?_; (case hd => rfl); (case hg => rfl); (case hr => first | (go_simp; done) | (go_simp; rfl)); intro gb318 hg w15 hbox hb; have BK318 := Aside0.mk (hbox); have GW318 := Aside0.mk (gz hg : w.heap.size ≤ gb318); have GE318 := Aside0.mk (gz hg : w.heap.size ≤ gb318); replace HB := Aside0.mk (below_step bl hb); clear hb hbox hg) | ((with_reducible refine gate_callee (f := 90) rfl ?_); refine goesL_ (some 11) rfl rfl Tryz.func90 kf rfl #[.slice A0 l0.length c0, .string (⟨#[]⟩ : ByteArray)] rfl ml ?_; (with_reducible refine (strings_Join.calls _ _ l0 (⟨#[]⟩ : ByteArray) t319 _ ?side1 ?side2 A2.out).mono ?_); (case side1 => repeat (first | exact (Kd.C_below HR0.out HB.out) | (with_reducible refine Kd.C_alloc ?_ _) | (with_reducible refine Kd.C_drewN ?_ _) | (with_reducible refine Kd.C_drew ?_))); (case side2 => exact HC0.out); rintro e w16 ⟨rfl, hb⟩; refine ⟨_, rfl, ?_⟩; replace BK318 := Aside0.mk (kb BK318.out hb); replace HB := Aside0.mk (below_step bl hb); (try clear hb); (try clear hb2); (try clear hk); (try clear hi)) | ((with_reducible refine gate_callee (f := 89) rfl ?_); refine goesL_ (some 12) rfl rfl Tryz.func89 kf rfl #[.string t319, .string (⟨#[58]⟩ : ByteArray)] rfl ml ?_; (with_reducible refine (strings_Cut.calls t319 (⟨#[58]⟩ : ByteArray) t320 t321 true _ ?side1 A3.out).mono ?_); (case side1 => exact Glob.below HG.out bl); rintro e w' ⟨rfl, ⟨nd, rfl⟩⟩; refine ⟨_, rfl, ?_⟩; (try (rw [drewN_self w16]; generalize hq_ : World.drewN w16 _ = w16; have n0_ : Aside0 (w16.heap[gb318]? = some (.cells #[.string (⟨#[]⟩ : ByteArray), .string (⟨#[]⟩ : ByteArray), .string (⟨#[]⟩ : ByteArray)] 72 (0, 0))) := ⟨by rw [← hq_]; exact (bk BK318.out)⟩; have n1_ : Aside0 (Below w.heap.size w w16) := ⟨by rw [← hq_]; exact bl⟩; clear BK318 HB hq_; have BK318 := n0_; have HB := n1_; clear n0_ n1_))) | ((with_reducible refine gate_callee (f := 91) rfl ?_); refine goesL_ (some 17) rfl rfl Tryz.func91 kf rfl #[.string t320] rfl ml ?_; (with_reducible refine (text_Trim.calls t320 t323 _ A4.out).mono ?_); rintro e w17 ⟨rfl, hb⟩; refine ⟨_, rfl, ?_⟩; replace BK318 := Aside0.mk (kb BK318.out hb); replace HB := Aside0.mk (below_step bl hb); (try clear hb); (try clear hb2); (try clear hk); (try clear hi); have p324 : 0 ≤ (0 : Int) := (by omega); have q324 : 0 < (l0.length : Int) := od; obtain ⟨ad324, e324, hx324_0⟩ := Kd.at_string HR0.out 0 p324 q324; cases e324; have qi324 : (0 < l0.length) = True := eq_true (by omega); (try rw [show ((0 : Int)).toNat = 0 from rfl] at hx324_0); (try rw [Addr.add_zero'] at hx324_0); replace hx324_0 := (HB.out.cell (World.block_lt_of_cell? w _ hx324_0)).trans hx324_0; replace p324 := eq_true p324; replace q324 := eq_true q324) | ((with_reducible refine gate_callee (f := 92) rfl ?_); refine goesL_ (some 21) rfl rfl Tryz.func92 kf rfl #[.string (rdOf ByteArray.empty l0 0), .string (⟨#[58]⟩ : ByteArray)] rfl ml ?_; (with_reducible refine (strings_Contains.calls (rdOf ByteArray.empty l0 0) (⟨#[58]⟩ : ByteArray) true _ ?side1 A6.out).mono ?_); (case side1 => exact Glob.below HG.out bl); rintro e w' ⟨rfl, ⟨nd, rfl⟩⟩; refine ⟨_, rfl, ?_⟩; (try (rw [drewN_self w17]; generalize hq_ : World.drewN w17 _ = w17; have n0_ : Aside0 (w17.heap[gb318]? = some (.cells #[.string (⟨#[]⟩ : ByteArray), .string (⟨#[]⟩ : ByteArray), .string (⟨#[]⟩ : ByteArray)] 72 (0, 0))) := ⟨by rw [← hq_]; exact (bk BK318.out)⟩; have n1_ : Aside0 (Below w.heap.size w w17) := ⟨by rw [← hq_]; exact bl⟩; clear BK318 HB hq_; have BK318 := n0_; have HB := n1_; clear n0_ n1_))) | ((with_reducible refine gate_callee (f := 91) rfl ?_); refine goesL_ (some 24) rfl rfl Tryz.func91 kf rfl #[.string t321] rfl ml ?_; (with_reducible refine (text_Trim.calls t321 t326 _ A7.out).mono ?_); rintro e w18 ⟨rfl, hb⟩; refine ⟨_, rfl, ?_⟩; replace BK318 := Aside0.mk (kb BK318.out hb); replace HB := Aside0.mk (below_step bl hb); (try clear hb); (try clear hb2); (try clear hk); (try clear hi)) | ((with_reducible refine gate_callee (f := 90) rfl ?_); refine goesL_ (some 26) rfl rfl Tryz.func90 kf rfl #[.slice (some ad324) l0.length c0, .string (⟨#[13, 10]⟩ : ByteArray)] rfl ml ?_; (with_reducible refine (strings_Join.calls _ _ l0 (⟨#[13, 10]⟩ : ByteArray) t327 _ ?side1 ?side2 A8.out).mono ?_); (case side1 => repeat (first | exact (Kd.C_below HR0.out HB.out) | (with_reducible refine Kd.C_alloc ?_ _) | (with_reducible refine Kd.C_drewN ?_ _) | (with_reducible refine Kd.C_drew ?_))); (case side2 => exact HC0.out); rintro e w19 ⟨rfl, hb⟩; refine ⟨_, rfl, ?_⟩; replace BK318 := Aside0.mk (kb BK318.out hb); replace HB := Aside0.mk (below_step bl hb); (try clear hb); (try clear hb2); (try clear hk); (try clear hi)) | (go_at_call 93; (with_reducible refine (head_named.calls k t323 true _ A12.out).mono ?_); rintro e w' ⟨rfl, ⟨nd, rfl⟩⟩; (try (rw [drewN_self w19]; generalize hq_ : World.drewN w19 _ = w19; have n0_ : Aside0 (w19.heap[gb318]? = some (.cells #[.string (⟨#[]⟩ : ByteArray), .string (⟨#[]⟩ : ByteArray), .string (⟨#[]⟩ : ByteArray)] 72 (0, 0))) := ⟨by rw [← hq_]; exact (bk BK318.out)⟩; have n1_ : Aside0 (Below w.heap.size w w19) := ⟨by rw [← hq_]; exact bl⟩; clear BK318 HB hq_; have BK318 := n0_; have HB := n1_; clear n0_ n1_))) | (go_at_call 26; (with_reducible refine (strings_HasPrefix.calls t320 t323 t329 _ A14.out).mono ?_); rintro e w' ⟨rfl, ⟨nd, rfl⟩⟩; (try (rw [drewN_self w19]; generalize hq_ : World.drewN w19 _ = w19; have n0_ : Aside0 (w19.heap[gb318]? = some (.cells #[.string (⟨#[]⟩ : ByteArray), .string (⟨#[]⟩ : ByteArray), .string (⟨#[]⟩ : ByteArray)] 72 (0, 0))) := ⟨by rw [← hq_]; exact (bk BK318.out)⟩; have n1_ : Aside0 (Below w.heap.size w w19) := ⟨by rw [← hq_]; exact bl⟩; clear BK318 HB hq_; have BK318 := n0_; have HB := n1_; clear n0_ n1_)); have hcz20_0 := cz BK318.out 0 (.string (⟨#[]⟩ : ByteArray)); have hcz20_1 := cz BK318.out 1 (.string (⟨#[]⟩ : ByteArray)); have hcz20_2 := cz BK318.out 2 (.string (⟨#[]⟩ : ByteArray)); have hfz20_0 := blk_frozen BK318.out 0; have hfz20_1 := blk_frozen BK318.out 1; have hfz20_2 := blk_frozen BK318.out 2))
    refine bodyPost_ret (results_ct rfl _ _ gb318 72 #[.string t323, .string t326, .string (t327 ++ (⟨#[13, 10]⟩ : ByteArray))] (0, 0) _ rfl (by (with_reducible repeat (first | refine blk_drewN ?_ _ | refine blk_drew ?_ | refine blk_alloc ?_ _)); refine blk_put (cs := #[.string t323, .string t326, .string (⟨#[]⟩ : ByteArray)]) ?_ 2 _ rfl; (with_reducible repeat (first | refine blk_drewN ?_ _ | refine blk_drew ?_ | refine blk_alloc ?_ _)); refine blk_put (cs := #[.string t323, .string (⟨#[]⟩ : ByteArray), .string (⟨#[]⟩ : ByteArray)]) ?_ 1 _ rfl; (with_reducible repeat (first | refine blk_drewN ?_ _ | refine blk_drew ?_ | refine blk_alloc ?_ _)); refine blk_put (cs := #[.string (⟨#[]⟩ : ByteArray), .string (⟨#[]⟩ : ByteArray), .string (⟨#[]⟩ : ByteArray)]) ?_ 0 _ rfl; (with_reducible repeat (first | refine blk_drewN ?_ _ | refine blk_drew ?_ | refine blk_alloc ?_ _)); exact BK318.out) Tryz.underlying72 rfl kf) rfl ?_
    exact ⟨rf, bl⟩
   ·replace c13 := Bool.eq_false_iff.mpr c13
    subst c13
    replace H : (some (t323, t326, t327 ++ (⟨#[13, 10]⟩ : ByteArray), false)) = some (r1, r2, r3, r4) := by rw [if_neg (show ¬ (false = true) by decide)] at H; exact H
    simp only [Option.some.injEq, Prod.mk.injEq] at H
    obtain ⟨rfl, rfl, rfl, rfl⟩ := H
    go_enter Tryz.func50, Tryz.ntmps50
    go_wp2_with (first | ((with_reducible refine gate_dst (N := 2) rfl ?_); refine box_event ?hg (N := 2) ?hd (cs := #[.string (⟨#[]⟩ : ByteArray), .string (⟨#[]⟩ : ByteArray), .string (⟨#[]⟩ : ByteArray)]) (t := 72) ?hr ?_; (case hd => rfl); (case hg => rfl); (case hr => first | (go_simp; done) | (go_simp; rfl)); intro gb318 hg w21 hbox hb; have BK318 := Aside0.mk (hbox); have GW318 := Aside0.mk (gz hg : w.heap.size ≤ gb318); have GE318 := Aside0.mk (gz hg : w.heap.size ≤ gb318); replace HB := Aside0.mk (below_step bl hb); clear hb hbox hg) | ((with_reducible refine gate_callee (f := 90) rfl ?_); refine goesL_ (some 11) rfl rfl Tryz.func90 kf rfl #[.slice A0 l0.length c0, .string (⟨#[]⟩ : ByteArray)] rfl ml ?_; (with_reducible refine (strings_Join.calls _ _ l0 (⟨#[]⟩ : ByteArray) t319 _ ?side1 ?side2 A2.out).mono ?_); (case side1 => repeat (first | exact (Kd.C_below HR0.out HB.out) | (with_reducible refine Kd.C_alloc ?_ _) | (with_reducible refine Kd.C_drewN ?_ _) | (with_reducible refine Kd.C_drew ?_))); (case side2 => exact HC0.out); rintro e w22 ⟨rfl, hb⟩; refine ⟨_, rfl, ?_⟩; replace BK318 := Aside0.mk (kb BK318.out hb); replace HB := Aside0.mk (below_step bl hb); (try clear hb); (try clear hb2); (try clear hk); (try clear hi)) | ((with_reducible refine gate_callee (f := 89) rfl ?_); refine goesL_ (some 12) rfl rfl Tryz.func89 kf rfl #[.string t319, .string (⟨#[58]⟩ : ByteArray)] rfl ml ?_; (with_reducible refine (strings_Cut.calls t319 (⟨#[58]⟩ : ByteArray) t320 t321 true _ ?side1 A3.out).mono ?_); (case side1 => exact Glob.below HG.out bl); rintro e w' ⟨rfl, ⟨nd, rfl⟩⟩; refine ⟨_, rfl, ?_⟩; (try (rw [drewN_self w22]; generalize hq_ : World.drewN w22 _ = w22; have n0_ : Aside0 (w22.heap[gb318]? = some (.cells #[.string (⟨#[]⟩ : ByteArray), .string (⟨#[]⟩ : ByteArray), .string (⟨#[]⟩ : ByteArray)] 72 (0, 0))) := ⟨by rw [← hq_]; exact (bk BK318.out)⟩; have n1_ : Aside0 (Below w.heap.size w w22) := ⟨by rw [← hq_]; exact bl⟩; clear BK318 HB hq_; have BK318 := n0_; have HB := n1_; clear n0_ n1_))) | ((with_reducible refine gate_callee (f := 91) rfl ?_); refine goesL_ (some 17) rfl rfl Tryz.func91 kf rfl #[.string t320] rfl ml ?_; (with_reducible refine (text_Trim.calls t320 t323 _ A4.out).mono ?_); rintro e w23 ⟨rfl, hb⟩; refine ⟨_, rfl, ?_⟩; replace BK318 := Aside0.mk (kb BK318.out hb); replace HB := Aside0.mk (below_step bl hb); (try clear hb); (try clear hb2); (try clear hk); (try clear hi); have p324 : 0 ≤ (0 : Int) := (by omega); have q324 : 0 < (l0.length : Int) := od; obtain ⟨ad324, e324, hx324_0⟩ := Kd.at_string HR0.out 0 p324 q324; cases e324; have qi324 : (0 < l0.length) = True := eq_true (by omega); (try rw [show ((0 : Int)).toNat = 0 from rfl] at hx324_0); (try rw [Addr.add_zero'] at hx324_0); replace hx324_0 := (HB.out.cell (World.block_lt_of_cell? w _ hx324_0)).trans hx324_0; replace p324 := eq_true p324; replace q324 := eq_true q324) | ((with_reducible refine gate_callee (f := 92) rfl ?_); refine goesL_ (some 21) rfl rfl Tryz.func92 kf rfl #[.string (rdOf ByteArray.empty l0 0), .string (⟨#[58]⟩ : ByteArray)] rfl ml ?_; (with_reducible refine (strings_Contains.calls (rdOf ByteArray.empty l0 0) (⟨#[58]⟩ : ByteArray) true _ ?side1 A6.out).mono ?_); (case side1 => exact Glob.below HG.out bl); rintro e w' ⟨rfl, ⟨nd, rfl⟩⟩; refine ⟨_, rfl, ?_⟩; (try (rw [drewN_self w23]; generalize hq_ : World.drewN w23 _ = w23; have n0_ : Aside0 (w23.heap[gb318]? = some (.cells #[.string (⟨#[]⟩ : ByteArray), .string (⟨#[]⟩ : ByteArray), .string (⟨#[]⟩ : ByteArray)] 72 (0, 0))) := ⟨by rw [← hq_]; exact (bk BK318.out)⟩; have n1_ : Aside0 (Below w.heap.size w w23) := ⟨by rw [← hq_]; exact bl⟩; clear BK318 HB hq_; have BK318 := n0_; have HB := n1_; clear n0_ n1_))) | ((with_reducible refine gate_callee (f := 91) rfl ?_); refine goesL_ (some 24) rfl rfl Tryz.func91 kf rfl #[.string t321] rfl ml ?_; (with_reducible refine (text_Trim.calls t321 t326 _ A7.out).mono ?_); rintro e w24 ⟨rfl, hb⟩; refine ⟨_, rfl, ?_⟩; replace BK318 := Aside0.mk (kb BK318.out hb); replace HB := Aside0.mk (below_step bl hb); (try clear hb); (try clear hb2); (try clear hk); (try clear hi)) | ((with_reducible refine gate_callee (f := 90) rfl ?_); refine goesL_ (some 26) rfl rfl Tryz.func90 kf rfl #[.slice (some ad324) l0.length c0, .string (⟨#[13, 10]⟩ : ByteArray)] rfl ml ?_; (with_reducible refine (strings_Join.calls _ _ l0 (⟨#[13, 10]⟩ : ByteArray) t327 _ ?side1 ?side2 A8.out).mono ?_); (case side1 => repeat (first | exact (Kd.C_below HR0.out HB.out) | (with_reducible refine Kd.C_alloc ?_ _) | (with_reducible refine Kd.C_drewN ?_ _) | (with_reducible refine Kd.C_drew ?_))); (case side2 => exact HC0.out); rintro e w25 ⟨rfl, hb⟩; refine ⟨_, rfl, ?_⟩; replace BK318 := Aside0.mk (kb BK318.out hb); replace HB := Aside0.mk (below_step bl hb); (try clear hb); (try clear hb2); (try clear hk); (try clear hi)) | (go_at_call 93; (with_reducible refine (head_named.calls k t323 false _ A12.out).mono ?_); rintro e w' ⟨rfl, ⟨nd, rfl⟩⟩; (try (rw [drewN_self w25]; generalize hq_ : World.drewN w25 _ = w25; have n0_ : Aside0 (w25.heap[gb318]? = some (.cells #[.string (⟨#[]⟩ : ByteArray), .string (⟨#[]⟩ : ByteArray), .string (⟨#[]⟩ : ByteArray)] 72 (0, 0))) := ⟨by rw [← hq_]; exact (bk BK318.out)⟩; have n1_ : Aside0 (Below w.heap.size w w25) := ⟨by rw [← hq_]; exact bl⟩; clear BK318 HB hq_; have BK318 := n0_; have HB := n1_; clear n0_ n1_)); have hcz26_0 := cz BK318.out 0 (.string (⟨#[]⟩ : ByteArray)); have hcz26_1 := cz BK318.out 1 (.string (⟨#[]⟩ : ByteArray)); have hcz26_2 := cz BK318.out 2 (.string (⟨#[]⟩ : ByteArray)); have hfz26_0 := blk_frozen BK318.out 0; have hfz26_1 := blk_frozen BK318.out 1; have hfz26_2 := blk_frozen BK318.out 2))
    refine bodyPost_ret (results_ct rfl _ _ gb318 72 #[.string t323, .string t326, .string (t327 ++ (⟨#[13, 10]⟩ : ByteArray))] (0, 0) _ rfl (by (with_reducible repeat (first | refine blk_drewN ?_ _ | refine blk_drew ?_ | refine blk_alloc ?_ _)); refine blk_put (cs := #[.string t323, .string t326, .string (⟨#[]⟩ : ByteArray)]) ?_ 2 _ rfl; (with_reducible repeat (first | refine blk_drewN ?_ _ | refine blk_drew ?_ | refine blk_alloc ?_ _)); refine blk_put (cs := #[.string t323, .string (⟨#[]⟩ : ByteArray), .string (⟨#[]⟩ : ByteArray)]) ?_ 1 _ rfl; (with_reducible repeat (first | refine blk_drewN ?_ _ | refine blk_drew ?_ | refine blk_alloc ?_ _)); refine blk_put (cs := #[.string (⟨#[]⟩ : ByteArray), .string (⟨#[]⟩ : ByteArray), .string (⟨#[]⟩ : ByteArray)]) ?_ 0 _ rfl; (with_reducible repeat (first | refine blk_drewN ?_ _ | refine blk_drew ?_ | refine blk_alloc ?_ _)); exact BK318.out) Tryz.underlying72 rfl kf) rfl ?_
    exact ⟨rf, bl⟩
  ·replace c11 := Bool.eq_false_iff.mpr c11
   subst c11
   replace H : (some (t323, t326, t327 ++ (⟨#[13, 10]⟩ : ByteArray), false)) = some (r1, r2, r3, r4) := by rw [if_neg (show ¬ (false = true) by decide)] at H; exact H
   simp only [Option.some.injEq, Prod.mk.injEq] at H
   obtain ⟨rfl, rfl, rfl, rfl⟩ := H
   go_enter Tryz.func50, Tryz.ntmps50
   go_wp2_with (first | ((with_reducible refine gate_dst (N := 2) rfl ?_); refine box_event ?hg (N := 2) ?hd (cs := #[.string (⟨#[]⟩ : ByteArray), .string (⟨#[]⟩ : ByteArray), .string (⟨#[]⟩ : ByteArray)]) (t := 72) ?hr ?_; (case hd => rfl); (case hg => rfl); (case hr => first | (go_simp; done) | (go_simp; rfl)); intro gb318 hg w27 hbox hb; have BK318 := Aside0.mk (hbox); have GW318 := Aside0.mk (gz hg : w.heap.size ≤ gb318); have GE318 := Aside0.mk (gz hg : w.heap.size ≤ gb318); replace HB := Aside0.mk (below_step bl hb); clear hb hbox hg) | ((with_reducible refine gate_callee (f := 90) rfl ?_); refine goesL_ (some 11) rfl rfl Tryz.func90 kf rfl #[.slice A0 l0.length c0, .string (⟨#[]⟩ : ByteArray)] rfl ml ?_; (with_reducible refine (strings_Join.calls _ _ l0 (⟨#[]⟩ : ByteArray) t319 _ ?side1 ?side2 A2.out).mono ?_); (case side1 => repeat (first | exact (Kd.C_below HR0.out HB.out) | (with_reducible refine Kd.C_alloc ?_ _) | (with_reducible refine Kd.C_drewN ?_ _) | (with_reducible refine Kd.C_drew ?_))); (case side2 => exact HC0.out); rintro e w28 ⟨rfl, hb⟩; refine ⟨_, rfl, ?_⟩; replace BK318 := Aside0.mk (kb BK318.out hb); replace HB := Aside0.mk (below_step bl hb); (try clear hb); (try clear hb2); (try clear hk); (try clear hi)) | ((with_reducible refine gate_callee (f := 89) rfl ?_); refine goesL_ (some 12) rfl rfl Tryz.func89 kf rfl #[.string t319, .string (⟨#[58]⟩ : ByteArray)] rfl ml ?_; (with_reducible refine (strings_Cut.calls t319 (⟨#[58]⟩ : ByteArray) t320 t321 true _ ?side1 A3.out).mono ?_); (case side1 => exact Glob.below HG.out bl); rintro e w' ⟨rfl, ⟨nd, rfl⟩⟩; refine ⟨_, rfl, ?_⟩; (try (rw [drewN_self w28]; generalize hq_ : World.drewN w28 _ = w28; have n0_ : Aside0 (w28.heap[gb318]? = some (.cells #[.string (⟨#[]⟩ : ByteArray), .string (⟨#[]⟩ : ByteArray), .string (⟨#[]⟩ : ByteArray)] 72 (0, 0))) := ⟨by rw [← hq_]; exact (bk BK318.out)⟩; have n1_ : Aside0 (Below w.heap.size w w28) := ⟨by rw [← hq_]; exact bl⟩; clear BK318 HB hq_; have BK318 := n0_; have HB := n1_; clear n0_ n1_))) | ((with_reducible refine gate_callee (f := 91) rfl ?_); refine goesL_ (some 17) rfl rfl Tryz.func91 kf rfl #[.string t320] rfl ml ?_; (with_reducible refine (text_Trim.calls t320 t323 _ A4.out).mono ?_); rintro e w29 ⟨rfl, hb⟩; refine ⟨_, rfl, ?_⟩; replace BK318 := Aside0.mk (kb BK318.out hb); replace HB := Aside0.mk (below_step bl hb); (try clear hb); (try clear hb2); (try clear hk); (try clear hi); have p324 : 0 ≤ (0 : Int) := (by omega); have q324 : 0 < (l0.length : Int) := od; obtain ⟨ad324, e324, hx324_0⟩ := Kd.at_string HR0.out 0 p324 q324; cases e324; have qi324 : (0 < l0.length) = True := eq_true (by omega); (try rw [show ((0 : Int)).toNat = 0 from rfl] at hx324_0); (try rw [Addr.add_zero'] at hx324_0); replace hx324_0 := (HB.out.cell (World.block_lt_of_cell? w _ hx324_0)).trans hx324_0; replace p324 := eq_true p324; replace q324 := eq_true q324) | ((with_reducible refine gate_callee (f := 92) rfl ?_); refine goesL_ (some 21) rfl rfl Tryz.func92 kf rfl #[.string (rdOf ByteArray.empty l0 0), .string (⟨#[58]⟩ : ByteArray)] rfl ml ?_; (with_reducible refine (strings_Contains.calls (rdOf ByteArray.empty l0 0) (⟨#[58]⟩ : ByteArray) false _ ?side1 A6.out).mono ?_); (case side1 => exact Glob.below HG.out bl); rintro e w' ⟨rfl, ⟨nd, rfl⟩⟩; refine ⟨_, rfl, ?_⟩; (try (rw [drewN_self w29]; generalize hq_ : World.drewN w29 _ = w29; have n0_ : Aside0 (w29.heap[gb318]? = some (.cells #[.string (⟨#[]⟩ : ByteArray), .string (⟨#[]⟩ : ByteArray), .string (⟨#[]⟩ : ByteArray)] 72 (0, 0))) := ⟨by rw [← hq_]; exact (bk BK318.out)⟩; have n1_ : Aside0 (Below w.heap.size w w29) := ⟨by rw [← hq_]; exact bl⟩; clear BK318 HB hq_; have BK318 := n0_; have HB := n1_; clear n0_ n1_))) | ((with_reducible refine gate_callee (f := 91) rfl ?_); refine goesL_ (some 24) rfl rfl Tryz.func91 kf rfl #[.string t321] rfl ml ?_; (with_reducible refine (text_Trim.calls t321 t326 _ A7.out).mono ?_); rintro e w30 ⟨rfl, hb⟩; refine ⟨_, rfl, ?_⟩; replace BK318 := Aside0.mk (kb BK318.out hb); replace HB := Aside0.mk (below_step bl hb); (try clear hb); (try clear hb2); (try clear hk); (try clear hi)) | ((with_reducible refine gate_callee (f := 90) rfl ?_); refine goesL_ (some 26) rfl rfl Tryz.func90 kf rfl #[.slice (some ad324) l0.length c0, .string (⟨#[13, 10]⟩ : ByteArray)] rfl ml ?_; (with_reducible refine (strings_Join.calls _ _ l0 (⟨#[13, 10]⟩ : ByteArray) t327 _ ?side1 ?side2 A8.out).mono ?_); (case side1 => repeat (first | exact (Kd.C_below HR0.out HB.out) | (with_reducible refine Kd.C_alloc ?_ _) | (with_reducible refine Kd.C_drewN ?_ _) | (with_reducible refine Kd.C_drew ?_))); (case side2 => exact HC0.out); rintro e w31 ⟨rfl, hb⟩; refine ⟨_, rfl, ?_⟩; replace BK318 := Aside0.mk (kb BK318.out hb); replace HB := Aside0.mk (below_step bl hb); (try clear hb); (try clear hb2); (try clear hk); (try clear hi); have hcz32_0 := cz BK318.out 0 (.string (⟨#[]⟩ : ByteArray)); have hcz32_1 := cz BK318.out 1 (.string (⟨#[]⟩ : ByteArray)); have hcz32_2 := cz BK318.out 2 (.string (⟨#[]⟩ : ByteArray)); have hfz32_0 := blk_frozen BK318.out 0; have hfz32_1 := blk_frozen BK318.out 1; have hfz32_2 := blk_frozen BK318.out 2))
   refine bodyPost_ret (results_ct rfl _ _ gb318 72 #[.string t323, .string t326, .string (t327 ++ (⟨#[13, 10]⟩ : ByteArray))] (0, 0) _ rfl (by (with_reducible repeat (first | refine blk_drewN ?_ _ | refine blk_drew ?_ | refine blk_alloc ?_ _)); refine blk_put (cs := #[.string t323, .string t326, .string (⟨#[]⟩ : ByteArray)]) ?_ 2 _ rfl; (with_reducible repeat (first | refine blk_drewN ?_ _ | refine blk_drew ?_ | refine blk_alloc ?_ _)); refine blk_put (cs := #[.string t323, .string (⟨#[]⟩ : ByteArray), .string (⟨#[]⟩ : ByteArray)]) ?_ 1 _ rfl; (with_reducible repeat (first | refine blk_drewN ?_ _ | refine blk_drew ?_ | refine blk_alloc ?_ _)); refine blk_put (cs := #[.string (⟨#[]⟩ : ByteArray), .string (⟨#[]⟩ : ByteArray), .string (⟨#[]⟩ : ByteArray)]) ?_ 0 _ rfl; (with_reducible repeat (first | refine blk_drewN ?_ _ | refine blk_drew ?_ | refine blk_alloc ?_ _)); exact BK318.out) Tryz.underlying72 rfl kf) rfl ?_
   exact ⟨rf, bl⟩
 ·replace c10 := Bool.eq_false_iff.mpr c10
  subst c10
  replace H : (some (t323, t326, t327 ++ (⟨#[13, 10]⟩ : ByteArray), false)) = some (r1, r2, r3, r4) := by rw [if_neg (show ¬ (false = true) by decide)] at H; exact H
  simp only [Option.some.injEq, Prod.mk.injEq] at H
  obtain ⟨rfl, rfl, rfl, rfl⟩ := H
  go_enter Tryz.func50, Tryz.ntmps50
  go_wp2_with (first | ((with_reducible refine gate_dst (N := 2) rfl ?_); refine box_event ?hg (N := 2) ?hd (cs := #[.string (⟨#[]⟩ : ByteArray), .string (⟨#[]⟩ : ByteArray), .string (⟨#[]⟩ : ByteArray)]) (t := 72) ?hr ?_; (case hd => rfl); (case hg => rfl); (case hr => first | (go_simp; done) | (go_simp; rfl)); intro gb318 hg w33 hbox hb; have BK318 := Aside0.mk (hbox); have GW318 := Aside0.mk (gz hg : w.heap.size ≤ gb318); have GE318 := Aside0.mk (gz hg : w.heap.size ≤ gb318); replace HB := Aside0.mk (below_step bl hb); clear hb hbox hg) | ((with_reducible refine gate_callee (f := 90) rfl ?_); refine goesL_ (some 11) rfl rfl Tryz.func90 kf rfl #[.slice A0 l0.length c0, .string (⟨#[]⟩ : ByteArray)] rfl ml ?_; (with_reducible refine (strings_Join.calls _ _ l0 (⟨#[]⟩ : ByteArray) t319 _ ?side1 ?side2 A2.out).mono ?_); (case side1 => repeat (first | exact (Kd.C_below HR0.out HB.out) | (with_reducible refine Kd.C_alloc ?_ _) | (with_reducible refine Kd.C_drewN ?_ _) | (with_reducible refine Kd.C_drew ?_))); (case side2 => exact HC0.out); rintro e w34 ⟨rfl, hb⟩; refine ⟨_, rfl, ?_⟩; replace BK318 := Aside0.mk (kb BK318.out hb); replace HB := Aside0.mk (below_step bl hb); (try clear hb); (try clear hb2); (try clear hk); (try clear hi)) | ((with_reducible refine gate_callee (f := 89) rfl ?_); refine goesL_ (some 12) rfl rfl Tryz.func89 kf rfl #[.string t319, .string (⟨#[58]⟩ : ByteArray)] rfl ml ?_; (with_reducible refine (strings_Cut.calls t319 (⟨#[58]⟩ : ByteArray) t320 t321 false _ ?side1 A3.out).mono ?_); (case side1 => exact Glob.below HG.out bl); rintro e w' ⟨rfl, ⟨nd, rfl⟩⟩; refine ⟨_, rfl, ?_⟩; (try (rw [drewN_self w34]; generalize hq_ : World.drewN w34 _ = w34; have n0_ : Aside0 (w34.heap[gb318]? = some (.cells #[.string (⟨#[]⟩ : ByteArray), .string (⟨#[]⟩ : ByteArray), .string (⟨#[]⟩ : ByteArray)] 72 (0, 0))) := ⟨by rw [← hq_]; exact (bk BK318.out)⟩; have n1_ : Aside0 (Below w.heap.size w w34) := ⟨by rw [← hq_]; exact bl⟩; clear BK318 HB hq_; have BK318 := n0_; have HB := n1_; clear n0_ n1_))) | ((with_reducible refine gate_callee (f := 91) rfl ?_); refine goesL_ (some 17) rfl rfl Tryz.func91 kf rfl #[.string t320] rfl ml ?_; (with_reducible refine (text_Trim.calls t320 t323 _ A4.out).mono ?_); rintro e w35 ⟨rfl, hb⟩; refine ⟨_, rfl, ?_⟩; replace BK318 := Aside0.mk (kb BK318.out hb); replace HB := Aside0.mk (below_step bl hb); (try clear hb); (try clear hb2); (try clear hk); (try clear hi); have p324 : 0 ≤ (0 : Int) := (by omega); have q324 : 0 < (l0.length : Int) := od; obtain ⟨ad324, e324, hx324_0⟩ := Kd.at_string HR0.out 0 p324 q324; cases e324; have qi324 : (0 < l0.length) = True := eq_true (by omega); (try rw [show ((0 : Int)).toNat = 0 from rfl] at hx324_0); (try rw [Addr.add_zero'] at hx324_0); replace hx324_0 := (HB.out.cell (World.block_lt_of_cell? w _ hx324_0)).trans hx324_0; replace p324 := eq_true p324; replace q324 := eq_true q324) | ((with_reducible refine gate_callee (f := 92) rfl ?_); refine goesL_ (some 21) rfl rfl Tryz.func92 kf rfl #[.string (rdOf ByteArray.empty l0 0), .string (⟨#[58]⟩ : ByteArray)] rfl ml ?_; (with_reducible refine (strings_Contains.calls (rdOf ByteArray.empty l0 0) (⟨#[58]⟩ : ByteArray) t325 _ ?side1 A6.out).mono ?_); (case side1 => exact Glob.below HG.out bl); rintro e w' ⟨rfl, ⟨nd, rfl⟩⟩; refine ⟨_, rfl, ?_⟩; (try (rw [drewN_self w35]; generalize hq_ : World.drewN w35 _ = w35; have n0_ : Aside0 (w35.heap[gb318]? = some (.cells #[.string (⟨#[]⟩ : ByteArray), .string (⟨#[]⟩ : ByteArray), .string (⟨#[]⟩ : ByteArray)] 72 (0, 0))) := ⟨by rw [← hq_]; exact (bk BK318.out)⟩; have n1_ : Aside0 (Below w.heap.size w w35) := ⟨by rw [← hq_]; exact bl⟩; clear BK318 HB hq_; have BK318 := n0_; have HB := n1_; clear n0_ n1_))) | ((with_reducible refine gate_callee (f := 91) rfl ?_); refine goesL_ (some 24) rfl rfl Tryz.func91 kf rfl #[.string t321] rfl ml ?_; (with_reducible refine (text_Trim.calls t321 t326 _ A7.out).mono ?_); rintro e w36 ⟨rfl, hb⟩; refine ⟨_, rfl, ?_⟩; replace BK318 := Aside0.mk (kb BK318.out hb); replace HB := Aside0.mk (below_step bl hb); (try clear hb); (try clear hb2); (try clear hk); (try clear hi)) | ((with_reducible refine gate_callee (f := 90) rfl ?_); refine goesL_ (some 26) rfl rfl Tryz.func90 kf rfl #[.slice (some ad324) l0.length c0, .string (⟨#[13, 10]⟩ : ByteArray)] rfl ml ?_; (with_reducible refine (strings_Join.calls _ _ l0 (⟨#[13, 10]⟩ : ByteArray) t327 _ ?side1 ?side2 A8.out).mono ?_); (case side1 => repeat (first | exact (Kd.C_below HR0.out HB.out) | (with_reducible refine Kd.C_alloc ?_ _) | (with_reducible refine Kd.C_drewN ?_ _) | (with_reducible refine Kd.C_drew ?_))); (case side2 => exact HC0.out); rintro e w37 ⟨rfl, hb⟩; refine ⟨_, rfl, ?_⟩; replace BK318 := Aside0.mk (kb BK318.out hb); replace HB := Aside0.mk (below_step bl hb); (try clear hb); (try clear hb2); (try clear hk); (try clear hi); have hcz38_0 := cz BK318.out 0 (.string (⟨#[]⟩ : ByteArray)); have hcz38_1 := cz BK318.out 1 (.string (⟨#[]⟩ : ByteArray)); have hcz38_2 := cz BK318.out 2 (.string (⟨#[]⟩ : ByteArray)); have hfz38_0 := blk_frozen BK318.out 0; have hfz38_1 := blk_frozen BK318.out 1; have hfz38_2 := blk_frozen BK318.out 2))
  refine bodyPost_ret (results_ct rfl _ _ gb318 72 #[.string t323, .string t326, .string (t327 ++ (⟨#[13, 10]⟩ : ByteArray))] (0, 0) _ rfl (by (with_reducible repeat (first | refine blk_drewN ?_ _ | refine blk_drew ?_ | refine blk_alloc ?_ _)); refine blk_put (cs := #[.string t323, .string t326, .string (⟨#[]⟩ : ByteArray)]) ?_ 2 _ rfl; (with_reducible repeat (first | refine blk_drewN ?_ _ | refine blk_drew ?_ | refine blk_alloc ?_ _)); refine blk_put (cs := #[.string t323, .string (⟨#[]⟩ : ByteArray), .string (⟨#[]⟩ : ByteArray)]) ?_ 1 _ rfl; (with_reducible repeat (first | refine blk_drewN ?_ _ | refine blk_drew ?_ | refine blk_alloc ?_ _)); refine blk_put (cs := #[.string (⟨#[]⟩ : ByteArray), .string (⟨#[]⟩ : ByteArray), .string (⟨#[]⟩ : ByteArray)]) ?_ 0 _ rfl; (with_reducible repeat (first | refine blk_drewN ?_ _ | refine blk_drew ?_ | refine blk_alloc ?_ _)); exact BK318.out) Tryz.underlying72 rfl kf) rfl ?_
  exact ⟨rf, bl⟩

end Go.Proofs.YtacjnapgdikhbaaGreatDoor.Q
end
section
namespace Go.Proofs.YtacjnapgdikhbaaGreatDoor.Q

/-! ### head_Parse: function 21 -/
mutual
def head_Parse.j1 : Nat → List ByteArray → Bool → ByteArray → Bool → Option ((List (S72)) × ByteArray × Bool × Int)
 | 0, _, _, _, _ => none
 | k + 1, x4, x5, x337001, x337002 => head_Parse.l1 k x4 x5 ([] : List (S72)) x337001 x337002
def head_Parse.l1 : Nat → List ByteArray → Bool → List (S72) → ByteArray → Bool → Option ((List (S72)) × ByteArray × Bool × Int)
 | 0, _, _, _, _, _ => none
 | k + 1, x4, x5, x337000, x337001, x337002 => if x5 = true then (head_Parse.j3 k x4 x5 (decide ((x4.length : Int) > 0)) x337000 x337001 x337002) else (head_Parse.j3 k x4 x5 false x337000 x337001 x337002)
def head_Parse.j3 : Nat → List ByteArray → Bool → Bool → List (S72) → ByteArray → Bool → Option ((List (S72)) × ByteArray × Bool × Int)
 | 0, _, _, _, _, _, _ => none
 | k + 1, x4, x5, x53, x337000, x337001, x337002 => if x53 = true then (head_Parse.l2 k x4 1 x337000 x337001 x337002) else (if x5 = true then (some (x337000, x337001, x337002, 0)) else (some (([] : List (S72)), (⟨#[]⟩ : ByteArray), false, 5)))
def head_Parse.l2 : Nat → List ByteArray → Int → List (S72) → ByteArray → Bool → Option ((List (S72)) × ByteArray × Bool × Int)
 | 0, _, _, _, _, _ => none
 | k + 1, x4, x10, x337000, x337001, x337002 => if x10 < (x4.length : Int) then (if 0 ≤ x10 then ((head_white.f (rdOf ByteArray.empty x4 x10)).bind fun t347 => (if t347 = true then (head_Parse.l2 k x4 (wrap64 (x10 + 1)) x337000 x337001 x337002) else (if x10 ≤ (x4.length : Int) then ((head_field.f k (x4.take (x10 : Int).toNat)).bind fun bt353 => (if bt353.2.2.2 = true then (if x337000.length < 2932031007402 then (head_Parse.l1 k (x4.drop (x10 : Int).toNat) bt353.2.2.2 (x337000 ++ [(⟨bt353.1, bt353.2.1, bt353.2.2.1⟩ : S72)]) x337001 x337002) else (none)) else (head_Parse.l1 k (x4.drop (x10 : Int).toNat) bt353.2.2.2 x337000 x337001 x337002))) else (none)))) else (none)) else (if 0 ≤ x10 then (if x10 ≤ (x4.length : Int) then ((head_field.f k (x4.take (x10 : Int).toNat)).bind fun bt371 => (if bt371.2.2.2 = true then (if x337000.length < 2932031007402 then (head_Parse.l1 k (x4.drop (x10 : Int).toNat) bt371.2.2.2 (x337000 ++ [(⟨bt371.1, bt371.2.1, bt371.2.2.1⟩ : S72)]) x337001 x337002) else (none)) else (head_Parse.l1 k (x4.drop (x10 : Int).toNat) bt371.2.2.2 x337000 x337001 x337002))) else (none)) else (none))
def head_Parse.l0 : Nat → List ByteArray → Bool → Int → List ByteArray → Int → Int → ByteArray → Bool → Option ((List (S72)) × ByteArray × Bool × Int)
 | 0, _, _, _, _, _, _, _, _ => none
 | k + 1, x4, x5, x6, x32, x33, x34, x337001, x337002 => if x34 < x33 then (if 0 ≤ x34 then (if x34 < (x32.length : Int) then (if (rdOf ByteArray.empty x32 x34).size + 2 ≤ 9223372036854775807 then (if x337001.size + ((rdOf ByteArray.empty x32 x34) ++ (⟨#[13, 10]⟩ : ByteArray)).size ≤ 9223372036854775807 then (head_Parse.l0 k x4 x5 x6 x32 x33 (wrap64 (x34 + 1)) (x337001 ++ ((rdOf ByteArray.empty x32 x34) ++ (⟨#[13, 10]⟩ : ByteArray))) x337002) else (none)) else (none)) else (none)) else (none)) else (if 0 ≤ x6 then (if x6 ≤ (x4.length : Int) then (head_Parse.j1 k (x4.take (x6 : Int).toNat) x5 x337001 x337002) else (none)) else (none))
end
def head_Parse.f (k : Nat) (a0 : ByteArray) : Option ((List (S72)) × ByteArray × Bool × Int) := if (a0.size : Int) > 8192 then (some (([] : List (S72)), (⟨#[]⟩ : ByteArray), false, 3)) else ((head_lines.f k a0).bind fun bt331 => ((slices_Index_string_string.f bt331.1 (⟨#[]⟩ : ByteArray)).bind fun t335 => (if t335 < 0 then (head_Parse.j1 k bt331.1 bt331.2 (⟨#[]⟩ : ByteArray) (decide (t335 < 0))) else (if 0 ≤ (wrap64 (t335 + 1)) then (if (wrap64 (t335 + 1)) ≤ (bt331.1.length : Int) then ((some (bt331.1.drop ((wrap64 (t335 + 1)) : Int).toNat : List ByteArray)).bind fun y337 => (head_Parse.l0 k bt331.1 bt331.2 t335 y337 (y337.length : Int) 0 (⟨#[]⟩ : ByteArray) (decide (t335 < 0)))) else (none)) else (none)))))
theorem head_Parse.mono_l : ∀ k, (∀ y0 y1 y2 y3, LeO (head_Parse.j1 k y0 y1 y2 y3) (head_Parse.j1 (k + 1) y0 y1 y2 y3)) ∧ (∀ y0 y1 y2 y3 y4, LeO (head_Parse.l1 k y0 y1 y2 y3 y4) (head_Parse.l1 (k + 1) y0 y1 y2 y3 y4)) ∧ (∀ y0 y1 y2 y3 y4 y5, LeO (head_Parse.j3 k y0 y1 y2 y3 y4 y5) (head_Parse.j3 (k + 1) y0 y1 y2 y3 y4 y5)) ∧ (∀ y0 y1 y2 y3 y4, LeO (head_Parse.l2 k y0 y1 y2 y3 y4) (head_Parse.l2 (k + 1) y0 y1 y2 y3 y4)) ∧ (∀ y0 y1 y2 y3 y4 y5 y6 y7, LeO (head_Parse.l0 k y0 y1 y2 y3 y4 y5 y6 y7) (head_Parse.l0 (k + 1) y0 y1 y2 y3 y4 y5 y6 y7))
 | 0 => ⟨fun _ _ _ _ r h => by simp [head_Parse.j1] at h, fun _ _ _ _ _ r h => by simp [head_Parse.l1] at h, fun _ _ _ _ _ _ r h => by simp [head_Parse.j3] at h, fun _ _ _ _ _ r h => by simp [head_Parse.l2] at h, fun _ _ _ _ _ _ _ _ r h => by simp [head_Parse.l0] at h⟩
 | k + 1 => by
  obtain ⟨ih0, ih1, ih2, ih3, ih4⟩ := head_Parse.mono_l k
  refine ⟨?_, ?_, ?_, ?_, ?_⟩
  ·intro y0 y1 y2 y3
   unfold head_Parse.j1
   repeat' first
   | (with_reducible first | exact ih0 _ _ _ _ | exact ih1 _ _ _ _ _ | exact ih2 _ _ _ _ _ _ | exact ih3 _ _ _ _ _ | exact ih4 _ _ _ _ _ _ _ _ | exact head_field.mono _ _ | exact head_lines.mono _ _ | exact LeO.refl _ | exact LeO.none _ | refine LeO.ite ?_ ?_ | refine LeO.bind ?_ (fun _ => ?_))
  ·intro y0 y1 y2 y3 y4
   unfold head_Parse.l1
   repeat' first
   | (with_reducible first | exact ih0 _ _ _ _ | exact ih1 _ _ _ _ _ | exact ih2 _ _ _ _ _ _ | exact ih3 _ _ _ _ _ | exact ih4 _ _ _ _ _ _ _ _ | exact head_field.mono _ _ | exact head_lines.mono _ _ | exact LeO.refl _ | exact LeO.none _ | refine LeO.ite ?_ ?_ | refine LeO.bind ?_ (fun _ => ?_))
  ·intro y0 y1 y2 y3 y4 y5
   unfold head_Parse.j3
   repeat' first
   | (with_reducible first | exact ih0 _ _ _ _ | exact ih1 _ _ _ _ _ | exact ih2 _ _ _ _ _ _ | exact ih3 _ _ _ _ _ | exact ih4 _ _ _ _ _ _ _ _ | exact head_field.mono _ _ | exact head_lines.mono _ _ | exact LeO.refl _ | exact LeO.none _ | refine LeO.ite ?_ ?_ | refine LeO.bind ?_ (fun _ => ?_))
  ·intro y0 y1 y2 y3 y4
   unfold head_Parse.l2
   repeat' first
   | (with_reducible first | exact ih0 _ _ _ _ | exact ih1 _ _ _ _ _ | exact ih2 _ _ _ _ _ _ | exact ih3 _ _ _ _ _ | exact ih4 _ _ _ _ _ _ _ _ | exact head_field.mono _ _ | exact head_lines.mono _ _ | exact LeO.refl _ | exact LeO.none _ | refine LeO.ite ?_ ?_ | refine LeO.bind ?_ (fun _ => ?_))
  ·intro y0 y1 y2 y3 y4 y5 y6 y7
   unfold head_Parse.l0
   repeat' first
   | (with_reducible first | exact ih0 _ _ _ _ | exact ih1 _ _ _ _ _ | exact ih2 _ _ _ _ _ _ | exact ih3 _ _ _ _ _ | exact ih4 _ _ _ _ _ _ _ _ | exact head_field.mono _ _ | exact head_lines.mono _ _ | exact LeO.refl _ | exact LeO.none _ | refine LeO.ite ?_ ?_ | refine LeO.bind ?_ (fun _ => ?_))
theorem head_Parse.mono : ∀ a0 k, LeO (head_Parse.f k a0) (head_Parse.f (k + 1) a0) := by
 intro a0 k
 obtain ⟨ih0, ih1, ih2, ih3, ih4⟩ := head_Parse.mono_l k
 unfold head_Parse.f
 repeat' first
   | (with_reducible first | exact ih0 _ _ _ _ | exact ih1 _ _ _ _ _ | exact ih2 _ _ _ _ _ _ | exact ih3 _ _ _ _ _ | exact ih4 _ _ _ _ _ _ _ _ | exact head_field.mono _ _ | exact head_lines.mono _ _ | exact LeO.refl _ | exact LeO.none _ | refine LeO.ite ?_ ?_ | refine LeO.bind ?_ (fun _ => ?_))
theorem head_Parse.calls (k : Nat) (a0 : ByteArray) (r1 : List (S72)) (r2 : ByteArray) (r3 : Bool) (r4 : Int) (w : World) (hG : Glob w) (h : head_Parse.f k a0 = some (r1, r2, r3, r4)) :
  Calls Tryz.prog 21 #[.string a0] w fun e w' => ∃ v0_ : Value, e = .returned (.tuple #[.agg #[v0_, .string r2, .bool r3], .int .i64 r4]) ∧ Kd.R k72 72 w' w.heap.size (fun _ => True) v0_ r1 ∧ Below w.heap.size w w' := by
 have hu24 := Tryz.underlying24
 have hu72 := Tryz.underlying72
 have HB := Aside0.mk (Below.refl w.heap.size w)
 have HG := Aside0.mk hG
 clear hG
 have H : (if (a0.size : Int) > 8192 then (some (([] : List (S72)), (⟨#[]⟩ : ByteArray), false, 3)) else ((head_lines.f k a0).bind fun bt331 => ((slices_Index_string_string.f bt331.1 (⟨#[]⟩ : ByteArray)).bind fun t335 => (if t335 < 0 then (head_Parse.j1 k bt331.1 bt331.2 (⟨#[]⟩ : ByteArray) (decide (t335 < 0))) else (if 0 ≤ (wrap64 (t335 + 1)) then (if (wrap64 (t335 + 1)) ≤ (bt331.1.length : Int) then ((some (bt331.1.drop ((wrap64 (t335 + 1)) : Int).toNat : List ByteArray)).bind fun y337 => (head_Parse.l0 k bt331.1 bt331.2 t335 y337 (y337.length : Int) 0 (⟨#[]⟩ : ByteArray) (decide (t335 < 0)))) else (none)) else (none)))))) = some (r1, r2, r3, r4) := h
 clear h
 by_cases c2 : (a0.size : Int) > 8192
 ·rw [if_pos c2] at H
  have c2b0 : decide (8192 < (a0.size : Int)) = true := decide_eq_true c2
  have c2b1 : decide (8192 < a0.size) = true := decide_eq_true (by omega)
  clear c2
  simp only [Option.some.injEq, Prod.mk.injEq] at H
  obtain ⟨rfl, rfl, rfl, rfl⟩ := H
  go_enter Tryz.func21, Tryz.ntmps21
  go_wp2_with (first | ((with_reducible refine gate_dst (N := 2) rfl ?_); (try (refine gate_guard (by rfl) ?_; dsimp only)); refine box_event ?hg (N := 2) ?hd (cs := #[.slice none 0 0, .string (⟨#[]⟩ : ByteArray), .bool false]) (t := 24) ?hr ?_; (case hd => rfl); (case hg => rfl); (case hr => first | (go_simp; done) | (go_simp; rfl)); intro gb330 hg w3 hbox hb; have BK330 := Aside0.mk (hbox); have GW330 := Aside0.mk (gz hg : w.heap.size ≤ gb330); have GE330 := Aside0.mk (gz hg : w.heap.size ≤ gb330); replace HB := Aside0.mk (below_step bl hb); clear hb hbox hg; have hcz4_0 := cz BK330.out 0 (.slice none 0 0); have hcz4_1 := cz BK330.out 1 (.string (⟨#[]⟩ : ByteArray)); have hcz4_2 := cz BK330.out 2 (.bool false); have hfz4_0 := blk_frozen BK330.out 0; have hfz4_1 := blk_frozen BK330.out 1; have hfz4_2 := blk_frozen BK330.out 2) | ((with_reducible refine gate_store (t := 24) (p := 2) rfl ?_); refine store_event (t := 24) (p := 2) (v := ?vo_w5) (w1 := (((w3.setCell ⟨gb330, 0, none⟩ (.slice none 0 0)).setCell ⟨gb330, 1, none⟩ (.string (⟨#[]⟩ : ByteArray))).setCell ⟨gb330, 2, none⟩ (.bool false))) ?hg ?ho ?hn ?hr ?_; (case ho => rfl); (case hg => rfl); (case hn => rfl); (case hr => first | (go_simp; done) | (go_simp; rfl)); intro w5 hw; have n0_ : Aside0 (w5.heap[gb330]? = some (.cells #[.slice none 0 0, .string (⟨#[]⟩ : ByteArray), .bool false] 24 (0, 0))) := ⟨(by rw [hw]; exact (by (with_reducible repeat (first | refine blk_drewN ?_ _ | refine blk_drew ?_ | refine blk_alloc ?_ _)); refine blk_put (cs := #[.slice none 0 0, .string (⟨#[]⟩ : ByteArray), .bool false]) ?_ 2 _ rfl; (with_reducible repeat (first | refine blk_drewN ?_ _ | refine blk_drew ?_ | refine blk_alloc ?_ _)); refine blk_put (cs := #[.slice none 0 0, .string (⟨#[]⟩ : ByteArray), .bool false]) ?_ 1 _ rfl; (with_reducible repeat (first | refine blk_drewN ?_ _ | refine blk_drew ?_ | refine blk_alloc ?_ _)); refine blk_put (cs := #[.slice none 0 0, .string (⟨#[]⟩ : ByteArray), .bool false]) ?_ 0 _ rfl; (with_reducible repeat (first | refine blk_drewN ?_ _ | refine blk_drew ?_ | refine blk_alloc ?_ _)); exact BK330.out))⟩; have n1_ : Aside0 (Below w.heap.size w w5) := ⟨(by rw [hw]; exact bl)⟩; clear hw BK330; clear HB; have BK330 := n0_; have HB := n1_; clear n0_ n1_))
  refine bodyPost_ret (results_ct rfl _ _ gb330 24 #[.slice none 0 0, .string (⟨#[]⟩ : ByteArray), .bool false] (0, 0) _ rfl (bk BK330.out) Tryz.underlying24 rfl kf) rfl ?_
  exact ⟨_, by first | rfl | (simp [errW_none, errW_some] <;> rfl) | (simp [*, errW_none, errW_some] <;> rfl), by first | exact Kd.R_nil _ _ _ _ _ | exact Kd.N_nil _ _ _ _ _ | exact Kd.V_nil _ _ _ _ _ | exact Kd.Q_nil _ _ _ _ _ | exact Kd.S_nil _ _ _ _ _, bl⟩
 ·rw [if_neg c2] at H
  have c2b0 : decide (8192 < (a0.size : Int)) = false := decide_eq_false c2
  have c2b1 : decide (8192 < a0.size) = false := decide_eq_false (by omega)
  clear c2
  obtain ⟨⟨t331, t332⟩, A60, H⟩ := Option.bind_eq_some_iff.mp H
  replace H : ((slices_Index_string_string.f t331 (⟨#[]⟩ : ByteArray)).bind fun t335 => (if t335 < 0 then (head_Parse.j1 k t331 t332 (⟨#[]⟩ : ByteArray) (decide (t335 < 0))) else (if 0 ≤ (wrap64 (t335 + 1)) then (if (wrap64 (t335 + 1)) ≤ (t331.length : Int) then ((some (t331.drop ((wrap64 (t335 + 1)) : Int).toNat : List ByteArray)).bind fun y337 => (head_Parse.l0 k t331 t332 t335 y337 (y337.length : Int) 0 (⟨#[]⟩ : ByteArray) (decide (t335 < 0)))) else (none)) else (none)))) = some (r1, r2, r3, r4) := H
  have A6 := Aside0.mk A60
  clear A60
  obtain ⟨t335, A70, H⟩ := Option.bind_eq_some_iff.mp H
  replace H : (if t335 < 0 then (head_Parse.j1 k t331 t332 (⟨#[]⟩ : ByteArray) (decide (t335 < 0))) else (if 0 ≤ (wrap64 (t335 + 1)) then (if (wrap64 (t335 + 1)) ≤ (t331.length : Int) then ((some (t331.drop ((wrap64 (t335 + 1)) : Int).toNat : List ByteArray)).bind fun y337 => (head_Parse.l0 k t331 t332 t335 y337 (y337.length : Int) 0 (⟨#[]⟩ : ByteArray) (decide (t335 < 0)))) else (none)) else (none))) = some (r1, r2, r3, r4) := H
  have A7 := Aside0.mk A70
  clear A70
  have HC8 := Aside0.mk H
  clear H
  go_enter Tryz.func21, Tryz.ntmps21
  go_upto_if 28 with (first | ((with_reducible refine gate_dst (N := 2) rfl ?_); (try (refine gate_guard (by rfl) ?_; dsimp only)); refine box_event ?hg (N := 2) ?hd (cs := #[.slice none 0 0, .string (⟨#[]⟩ : ByteArray), .bool false]) (t := 24) ?hr ?_; (case hd => rfl); (case hg => rfl); (case hr => first | (go_simp; done) | (go_simp; rfl)); intro gb330 hg w9 hbox hb; have BK330 := Aside0.mk (hbox); have GW330 := Aside0.mk (gz hg : w.heap.size ≤ gb330); have GE330 := Aside0.mk (gz hg : w.heap.size ≤ gb330); replace HB := Aside0.mk (below_step bl hb); clear hb hbox hg) | ((with_reducible refine gate_callee (f := 47) rfl ?_); refine goesL_ (some 18) rfl rfl Tryz.func47 kf rfl #[.string a0] rfl ml ?_; (with_reducible refine (head_lines.calls k a0 t331 t332 _ ?side1 A6.out).mono ?_); (case side1 => exact Glob.below HG.out bl); rintro e w10 ⟨v333, rfl, ho0, hb⟩; refine ⟨_, rfl, ?_⟩; have HO334 := Aside0.mk (Kd.R_lower ho0 (below_size bl)); replace BK330 := Aside0.mk (kb BK330.out hb); replace HB := Aside0.mk (below_step bl hb); (try clear hb); (try clear hb2); (try clear hk); (try clear hi); (try clear ho0); obtain ⟨Ao11, co11, eo11⟩ := Kd.R_slice HO334.out; subst eo11) | ((with_reducible refine gate_callee (f := 48) rfl ?_); refine goesL_ (some 22) rfl rfl Tryz.func48 kf rfl #[.slice Ao11 t331.length co11, .string (⟨#[]⟩ : ByteArray)] rfl ml ?_; (with_reducible refine (slices_Index_string_string.calls _ _ t331 (⟨#[]⟩ : ByteArray) t335 _ ?side1 ?side2 A7.out).mono ?_); (case side1 => repeat (first | exact (Kd.R_reads' HO334.out).2.2 | (with_reducible refine Kd.C_alloc ?_ _) | (with_reducible refine Kd.C_drewN ?_ _) | (with_reducible refine Kd.C_drew ?_))); (case side2 => exact (Kd.R_reads' HO334.out).2.1); rintro e w' ⟨rfl, ⟨nd, rfl⟩⟩; refine ⟨_, rfl, ?_⟩; (try (rw [drewN_self w10]; generalize hq_ : World.drewN w10 _ = w10; have n0_ : Aside0 (Kd.R Kd.string 9 w10 w.heap.size (fun _ => True) (.slice Ao11 t331.length co11) t331) := ⟨by rw [← hq_]; exact (kr HO334.out)⟩; have n1_ : Aside0 (w10.heap[gb330]? = some (.cells #[.slice none 0 0, .string (⟨#[]⟩ : ByteArray), .bool false] 24 (0, 0))) := ⟨by rw [← hq_]; exact (bk BK330.out)⟩; have n2_ : Aside0 (Below w.heap.size w w10) := ⟨by rw [← hq_]; exact bl⟩; clear HO334 BK330 HB hq_; have HO334 := n0_; have BK330 := n1_; have HB := n2_; clear n0_ n1_ n2_))) | ((with_reducible refine gate_dst (N := 7) rfl ?_); (try (refine gate_guard (by rfl) ?_; dsimp only)); refine box_event ?hg (N := 7) ?hd (cs := #[.slice none 0 0, .string (⟨#[]⟩ : ByteArray), .bool false]) (t := 24) ?hr ?_; (case hd => rfl); (case hg => rfl); (case hr => first | (go_simp; done) | (go_simp; rfl)); intro gb336 hg w12 hbox hb; replace HO334 := Aside0.mk (Kd.R_below (kr HO334.out) hb); have BK336 := Aside0.mk (hbox); have GW336 := Aside0.mk (gz hg : w.heap.size ≤ gb336); have GE336 := Aside0.mk (gz hg : w.heap.size ≤ gb336); replace HB := Aside0.mk (below_step bl hb); have NB330_336 := Aside0.mk (nl hg BK330.out : gb330 ≠ gb336); have NB336_330 := Aside0.mk (ng hg BK330.out : gb336 ≠ gb330); replace BK330 := Aside0.mk (kb BK330.out hb); clear hb hbox hg; have hnb13 := NB336_330.out; have hnc13 := NB330_336.out; have hcz14_0 := cz BK336.out 0 (.slice none 0 0); have hcz14_1 := cz BK336.out 1 (.string (⟨#[]⟩ : ByteArray)); have hcz14_2 := cz BK336.out 2 (.bool false); have hfz14_0 := blk_frozen BK336.out 0; have hfz14_1 := blk_frozen BK336.out 1; have hfz14_2 := blk_frozen BK336.out 2) | ((with_reducible refine gate_store (t := 24) (p := 7) rfl ?_); refine store_event (t := 24) (p := 7) (v := ?vo_w15) (w1 := (((w12.setCell ⟨gb336, 0, none⟩ (.slice none 0 0)).setCell ⟨gb336, 1, none⟩ (.string (⟨#[]⟩ : ByteArray))).setCell ⟨gb336, 2, none⟩ (.bool (decide (t335 < 0))))) ?hg ?ho ?hn ?hr ?_; (case ho => rfl); (case hg => rfl); (case hn => rfl); (case hr => first | (go_simp; done) | (go_simp; rfl)); intro w15 hw; have n0_ : Aside0 (Kd.R Kd.string 9 w15 w.heap.size (fun _ => True) (.slice Ao11 t331.length co11) t331) := ⟨(by rw [hw]; exact (by (with_reducible repeat (first | apply Kd.R_alloc | apply Kd.R_drewN | apply Kd.R_drew)); exact Kd.R_mono (Kd.R_far (p := ⟨gb336, 2, none⟩) (Kd.R_far (p := ⟨gb336, 1, none⟩) (Kd.R_far (p := ⟨gb336, 0, none⟩) (Kd.R_types HO334.out BK336.out (by decide)) (fun _ hk => hk.2) (.slice none 0 0)) (fun _ hk => hk.2) (.string (⟨#[]⟩ : ByteArray))) (fun _ hk => hk.2) (.bool (decide (t335 < 0)))) (fun _ hk => trivial)))⟩; have n1_ : Aside0 (w15.heap[gb330]? = some (.cells #[.slice none 0 0, .string (⟨#[]⟩ : ByteArray), .bool false] 24 (0, 0))) := ⟨(by rw [hw]; exact (bk BK330.out))⟩; have n2_ : Aside0 (w15.heap[gb336]? = some (.cells #[.slice none 0 0, .string (⟨#[]⟩ : ByteArray), .bool (decide (t335 < 0))] 24 (0, 0))) := ⟨(by rw [hw]; exact (by (with_reducible repeat (first | refine blk_drewN ?_ _ | refine blk_drew ?_ | refine blk_alloc ?_ _)); refine blk_put (cs := #[.slice none 0 0, .string (⟨#[]⟩ : ByteArray), .bool false]) ?_ 2 _ rfl; (with_reducible repeat (first | refine blk_drewN ?_ _ | refine blk_drew ?_ | refine blk_alloc ?_ _)); refine blk_put (cs := #[.slice none 0 0, .string (⟨#[]⟩ : ByteArray), .bool false]) ?_ 1 _ rfl; (with_reducible repeat (first | refine blk_drewN ?_ _ | refine blk_drew ?_ | refine blk_alloc ?_ _)); refine blk_put (cs := #[.slice none 0 0, .string (⟨#[]⟩ : ByteArray), .bool false]) ?_ 0 _ rfl; (with_reducible repeat (first | refine blk_drewN ?_ _ | refine blk_drew ?_ | refine blk_alloc ?_ _)); exact BK336.out))⟩; have n3_ : Aside0 (Below w.heap.size w w15) := ⟨(by rw [hw]; exact bl)⟩; clear hw HO334; clear BK330 BK336; clear HB; have HO334 := n0_; have BK330 := n1_; have BK336 := n2_; have HB := n3_; clear n0_ n1_ n2_ n3_; have hcz16_0 := cz BK336.out 0 (.slice none 0 0); have hcz16_1 := cz BK336.out 1 (.string (⟨#[]⟩ : ByteArray)); have hcz16_2 := cz BK336.out 2 (.bool (decide (t335 < 0))); have hfz16_0 := blk_frozen BK336.out 0; have hfz16_1 := blk_frozen BK336.out 1; have hfz16_2 := blk_frozen BK336.out 2))
  (try simp only [Act.put, sA, sB, sC])
  go_cut [4] (fun v4 wc => ∃ (kq : Nat) (x4_7 : List ByteArray) (x337001_7 : ByteArray), Aside0 (head_Parse.j1 kq x4_7 t332 x337001_7 (decide (t335 < 0)) = some (r1, r2, r3, r4)) ∧ Aside0 (kq ≤ k) ∧ Aside0 (Kd.Q Kd.string 9 wc w.heap.size (fun _ => True) v4 x4_7) ∧ Aside0 (wc.heap[gb330]? = some (.cells #[(.slice none 0 0), .string (⟨#[]⟩ : ByteArray), .bool false] 24 (0, 0))) ∧ Aside0 (wc.heap[gb336]? = some (.cells #[(.slice none 0 0), .string x337001_7, .bool (decide (t335 < 0))] 24 (0, 0))) ∧ Aside0 (Below w.heap.size w wc))
  case first =>
   have H := HC8.out
   clear HC8
   by_cases c17 : t335 < 0
   ·rw [if_pos c17] at H
    have c17b0 : decide (t335 < 0) = true := decide_eq_true c17
    clear c17
    (first | rw [c17b0] | (simp only [i64_w, i32_w]; rw [c17b0]) | skip)
    have H' := Aside0.mk H
    clear H
    go_wp2
    go_meet
    case rel => exact ⟨_, (t331), ((⟨#[]⟩ : ByteArray)), H', ⟨by first | omega | exact Nat.le_refl _⟩, ⟨Kd.Q_of_R (kr HO334.out)⟩, ⟨bk BK330.out⟩, ⟨bk BK336.out⟩, ⟨bl⟩⟩
   ·rw [if_neg c17] at H
    have c17b0 : decide (t335 < 0) = false := decide_eq_false c17
    clear c17
    (first | rw [c17b0] | (simp only [i64_w, i32_w]; rw [c17b0]) | skip)
    obtain ⟨ji18, hji18⟩ : ∃ j_ : Int, (wrap64 (t335 + 1)) = j_ := ⟨_, rfl⟩
    replace H : (if 0 ≤ (ji18) then (if (ji18) ≤ (t331.length : Int) then ((some (t331.drop ((ji18) : Int).toNat : List ByteArray)).bind fun y337 => (head_Parse.l0 k t331 t332 t335 y337 (y337.length : Int) 0 (⟨#[]⟩ : ByteArray) (decide (t335 < 0)))) else (none)) else (none)) = some (r1, r2, r3, r4) := by first | (rw [hji18] at H; exact H) | (simp only [hji18] at H ⊢; exact H)
    have hji18w : (IntKind.i64.wrap (t335 + 1)) = ji18 := (i64_w _).trans hji18
    by_cases c19 : 0 ≤ (ji18)
    rotate_left
    ·rw [if_neg c19] at H
     exact ab H
    rw [if_pos c19] at H
    have c19b0 := eq_true c19
    have c19b1 : decide (0 ≤ (ji18)) = true := decide_eq_true c19
    clear c19
    by_cases c20 : (ji18) ≤ (t331.length : Int)
    rotate_left
    ·rw [if_neg c20] at H
     exact ab H
    rw [if_pos c20] at H
    have c20b0 := eq_true c20
    have c20b1 : decide ((ji18) ≤ (t331.length : Int)) = true := decide_eq_true c20
    clear c20
    obtain ⟨y337, hy337⟩ : ∃ y_ : List ByteArray, y_ = (t331.drop ((ji18) : Int).toNat) := ⟨_, rfl⟩
    replace H : (head_Parse.l0 k t331 t332 t335 y337 (y337.length : Int) 0 (⟨#[]⟩ : ByteArray) (decide (t335 < 0))) = some (r1, r2, r3, r4) := by first | (rw [hy337]; with_reducible exact H) | (have H2_ := (Option.bind_some _ _).symm.trans H; rw [hy337]; with_reducible exact H2_) | (have H2_ := (Option.bind_some _ _).symm.trans H; with_reducible exact H2_) | with_reducible exact H | (rw [hy337]; exact H) | exact H
    have Ny337 := Aside0.mk hy337
    clear hy337
    have H' := Aside0.mk H
    clear H
    have q21 : ((ji18) : Int) ≤ ((t331.length : Int) : Int) := od
    obtain ⟨i021, hi021, _, hsz21, _⟩ := info_parts info9
    have hroom21 : t331.length ≤ co11 := (Kd.R_reads' HO334.out).2.1
    have hC21 : Kd.F Kd.string _ _ Ao11 t331.length t331 := (Kd.V_at (base := w.heap.size) (Kd.R_V (Kd.R_types (Kd.R_types (HO334.out) BK330.out (by decide)) BK336.out (by decide)))).2.2
    have q021 : (0 : Int) ≤ ((ji18) : Int) := od
    have hcut21 := cut_from (P := Tryz.prog) 84 9 .i64 Tryz.underlying84 hi021 1 hsz21 Ao11 t331.length co11 (ji18) q021 q21
    have hr21 := Kd.F_cut (m := ((ji18) : Int).toNat) (c := co11) hC21 (by omega) hroom21
    obtain ⟨A21, hA21⟩ : ∃ A1, A1 = (if co11 = ((ji18) : Int).toNat then Ao11 else (Ao11 : Option Addr).map (·.add (((ji18) : Int).toNat * 1))) := ⟨_, rfl⟩
    obtain ⟨c21, hc21⟩ : ∃ c1, c1 = co11 - ((ji18) : Int).toNat := ⟨_, rfl⟩
    have hy21 : y337.length = t331.length - ((ji18) : Int).toNat := (by rw [Ny337.out, List.length_drop] <;> omega)
    rw [show (t331).drop ((ji18) : Int).toNat = y337 from Ny337.out.symm] at hr21
    replace hr21 : Kd.F Kd.string _ _ A21 y337.length y337 := (by rw [hA21]; exact hr21)
    rw [← hy21, ← hA21, ← hc21] at hcut21
    have HO341 := Aside0.mk (show Kd.V Kd.string 9 _ w.heap.size _ (.slice A21 y337.length c21) y337 from Kd.V_mk (by rw [hy21, hc21]; exact Nat.sub_le_sub_right hroom21 _) hr21)
    have HC341 := Aside0.mk (show y337.length ≤ c21 from by rw [hy21, hc21]; exact Nat.sub_le_sub_right hroom21 _)
    clear hr21 hC21 hroom21 hi021 hsz21 hc21
    have KY21 := Aside0.mk hy21
    have KA21 := Aside0.mk hA21
    clear hy21 hA21
    replace q21 := eq_true q21
    go_wp2
    go_loopg [34] k (fun kq v34 w' => ∃ (x34_1 : Int) (x337001_1 : ByteArray), v34 = .int .i64 x34_1 ∧ Aside0 (head_Parse.l0 kq t331 t332 t335 y337 (y337.length : Int) x34_1 x337001_1 (decide (t335 < 0)) = some (r1, r2, r3, r4)) ∧ Aside0 (kq ≤ k) ∧ Aside0 (Kd.Q Kd.string 9 w' w.heap.size (fun _ => True) (.slice Ao11 t331.length co11) t331) ∧ Aside0 (Kd.V Kd.string 9 w' w.heap.size (fun k_ => k_ ≠ gb330 ∧ k_ ≠ gb336) (.slice A21 y337.length c21) y337) ∧ Aside0 (w'.heap[gb330]? = some (.cells #[(.slice none 0 0), .string (⟨#[]⟩ : ByteArray), .bool false] 24 (0, 0))) ∧ Aside0 (w'.heap[gb336]? = some (.cells #[(.slice none 0 0), .string x337001_1, .bool (decide (t335 < 0))] 24 (0, 0))) ∧ Aside0 (Below w.heap.size w w'))
    case atStart => exact ⟨(0), ((⟨#[]⟩ : ByteArray)), rs, H', ⟨Nat.le_refl _⟩, ⟨Kd.Q_of_R (kr HO334.out)⟩, ⟨by (with_reducible repeat (first | apply Kd.V_alloc | apply Kd.V_drewN | apply Kd.V_drew)); exact Kd.V_mono HO341.out (fun _ hk => ⟨hk.1.2, hk.2⟩)⟩, ⟨bk BK330.out⟩, ⟨bk BK336.out⟩, ⟨bl⟩⟩
    case round =>
     clear H'
     try clear c1
     try clear c2
     try clear c2b0
     try clear c2b1
     try clear p2
     try clear q2
     try clear c4
     try clear p6
     try clear c13
     try clear c17
     try clear c17b0
     try clear c19
     try clear c19b0
     try clear c19b1
     try clear c20
     try clear c20b0
     try clear c20b1
     try clear c21
     try clear q21
     try clear hcz14_0
     try clear hcz14_1
     try clear hcz14_2
     try clear hcz16_0
     try clear hcz16_1
     try clear hcz16_2
     try clear hcz4_0
     try clear hcz4_1
     try clear hcz4_2
     try clear hfz14_0
     try clear hfz14_1
     try clear hfz14_2
     try clear hfz16_0
     try clear hfz16_1
     try clear hfz16_2
     try clear hfz4_0
     try clear hfz4_1
     try clear hfz4_2
     try clear q021
     try clear q21
     obtain ⟨x34_1, x337001_1, rfl, HA, HK1, HO_4, HO_32, BK330, BK336, HB⟩ := hrel
     cases gk with
     | zero => exact absurd HA.out (by simp [head_Parse.l0])
     | succ k1 =>
      have H := HA.out
      clear HA
      simp only [head_Parse.l0] at H
      by_cases c22 : x34_1 < (y337.length : Int)
      ·rw [if_pos c22] at H
       have c22b0 : decide (x34_1 < (y337.length : Int)) = true := decide_eq_true c22
       clear c22
       by_cases c23 : 0 ≤ x34_1
       rotate_left
       ·rw [if_neg c23] at H
        exact ab H
       rw [if_pos c23] at H
       have c23b0 : decide (0 ≤ x34_1) = true := decide_eq_true c23
       clear c23
       by_cases c24 : x34_1 < (y337.length : Int)
       rotate_left
       ·rw [if_neg c24] at H
        exact ab H
       rw [if_pos c24] at H
       have c24b0 : decide (x34_1 < (y337.length : Int)) = true := decide_eq_true c24
       clear c24
       by_cases c25 : (rdOf ByteArray.empty y337 x34_1).size + 2 ≤ 9223372036854775807
       rotate_left
       ·rw [if_neg c25] at H
        exact ab H
       rw [if_pos c25] at H
       have c25b0 := eq_true c25
       have c25b1 : decide ((rdOf ByteArray.empty y337 x34_1).size + 2 ≤ 9223372036854775807) = true := decide_eq_true c25
       try have c25b2 : (9223372036854775807 < (rdOf ByteArray.empty y337 x34_1).size + 2) = False := eq_false (Nat.not_lt.2 c25)
       by_cases c26 : x337001_1.size + ((rdOf ByteArray.empty y337 x34_1) ++ (⟨#[13, 10]⟩ : ByteArray)).size ≤ 9223372036854775807
       rotate_left
       ·rw [if_neg c26] at H
        exact ab H
       rw [if_pos c26] at H
       have c26b0 := eq_true c26
       have c26b1 : decide (x337001_1.size + ((rdOf ByteArray.empty y337 x34_1) ++ (⟨#[13, 10]⟩ : ByteArray)).size ≤ 9223372036854775807) = true := decide_eq_true c26
       try have c26b2 : (9223372036854775807 < x337001_1.size + ((rdOf ByteArray.empty y337 x34_1) ++ (⟨#[13, 10]⟩ : ByteArray)).size) = False := eq_false (Nat.not_lt.2 c26)
       try (have c26b2y := c26b2; rw [ByteArray.size_append] at c26b2y)
       try have c26b2z : (9223372036854775807 < x337001_1.size + ((rdOf ByteArray.empty y337 x34_1).size + 2)) = False := eq_false (fun h_ => by have g_ := c26; simp only [ByteArray.size_append, show (⟨#[13, 10]⟩ : ByteArray).size = 2 from rfl] at g_; omega)
       have H' := Aside0.mk H
       clear H
       have p342 : 0 ≤ (x34_1 : Int) := od
       have q342 : x34_1 < (y337.length : Int) := od
       obtain ⟨ad342, e342, hx342_0⟩ := Kd.at_string (Kd.V_reads' HO_32.out).2.2 x34_1 p342 q342
       cases e342
       replace p342 := eq_true p342
       replace q342 := eq_true q342
       have hnb27 := NB336_330.out
       have hnc27 := NB330_336.out
       have hcz28_0 := cz BK336.out 0 (.slice none 0 0)
       have hcz28_1 := cz BK336.out 1 (.string x337001_1)
       have hcz28_2 := cz BK336.out 2 (.bool (decide (t335 < 0)))
       have hfz28_0 := blk_frozen BK336.out 0
       have hfz28_1 := blk_frozen BK336.out 1
       have hfz28_2 := blk_frozen BK336.out 2
       go_wp2_with (first | ((with_reducible refine gate_store (t := 9) (p := 43) rfl ?_); refine store_event (t := 9) (p := 43) (v := ?vo_w29) (w1 := (wr.setCell ⟨gb336, 1, none⟩ (.string (x337001_1 ++ ((rdOf ByteArray.empty y337 x34_1) ++ (⟨#[13, 10]⟩ : ByteArray)))))) ?hg ?ho ?hn ?hr ?_; (case ho => rfl); (case hg => rfl); (case hn => rfl); (case hr => first | (go_simp; done) | (go_simp; rfl)); intro w29 hw; have n0_ : Aside0 (Kd.Q Kd.string 9 w29 w.heap.size (fun _ => True) (.slice Ao11 t331.length co11) t331) := ⟨(by rw [hw]; exact (by (with_reducible repeat (first | apply Kd.Q_alloc | apply Kd.Q_drewN | apply Kd.Q_drew)); exact Kd.Q_mono (Kd.Q_far (p := ⟨gb336, 1, none⟩) (Kd.Q_types HO_4.out BK336.out (by decide)) (fun _ hk => hk.2) (.string (x337001_1 ++ ((rdOf ByteArray.empty y337 x34_1) ++ (⟨#[13, 10]⟩ : ByteArray))))) (fun _ hk => trivial)))⟩; have n1_ : Aside0 (Kd.V Kd.string 9 w29 w.heap.size (fun k_ => k_ ≠ gb330 ∧ k_ ≠ gb336) (.slice (some ad342) y337.length c21) y337) := ⟨(by rw [hw]; exact (by (with_reducible repeat (first | apply Kd.V_alloc | apply Kd.V_drewN | apply Kd.V_drew)); exact Kd.V_mono (Kd.V_far (p := ⟨gb336, 1, none⟩) (Kd.V_mono HO_32.out (fun k_ hk => (⟨hk, hk.2⟩ : _ ∧ k_ ≠ gb336))) (fun _ hk => hk.2) (.string (x337001_1 ++ ((rdOf ByteArray.empty y337 x34_1) ++ (⟨#[13, 10]⟩ : ByteArray))))) (fun _ hk => ⟨hk.1.1, hk.1.2⟩)))⟩; have n2_ : Aside0 (w29.heap[gb330]? = some (.cells #[.slice none 0 0, .string (⟨#[]⟩ : ByteArray), .bool false] 24 (0, 0))) := ⟨(by rw [hw]; exact (bk BK330.out))⟩; have n3_ : Aside0 (w29.heap[gb336]? = some (.cells #[.slice none 0 0, .string (x337001_1 ++ ((rdOf ByteArray.empty y337 x34_1) ++ (⟨#[13, 10]⟩ : ByteArray))), .bool (decide (t335 < 0))] 24 (0, 0))) := ⟨(by rw [hw]; exact (by (with_reducible repeat (first | refine blk_drewN ?_ _ | refine blk_drew ?_ | refine blk_alloc ?_ _)); refine blk_put (cs := #[.slice none 0 0, .string x337001_1, .bool (decide (t335 < 0))]) ?_ 1 _ rfl; (with_reducible repeat (first | refine blk_drewN ?_ _ | refine blk_drew ?_ | refine blk_alloc ?_ _)); exact BK336.out))⟩; have n4_ : Aside0 (Below w.heap.size w w29) := ⟨(by rw [hw]; exact bl)⟩; clear hw HO_4; clear HO_32 BK330; clear BK336 HB; have HO_4 := n0_; have HO_32 := n1_; have BK330 := n2_; have BK336 := n3_; have HB := n4_; clear n0_ n1_ n2_ n3_ n4_))
       go_roundg k1
       case measure => have := HK1.out; omega
       case rel => exact ⟨(wrap64 (x34_1 + 1)), (x337001_1 ++ ((rdOf ByteArray.empty y337 x34_1) ++ (⟨#[13, 10]⟩ : ByteArray))), rs, H', ⟨by have := HK1.out; omega⟩, ⟨by (with_reducible repeat (first | apply Kd.Q_alloc | apply Kd.Q_drewN | apply Kd.Q_drew)); exact HO_4.out⟩, ⟨by (with_reducible repeat (first | apply Kd.V_alloc | apply Kd.V_drewN | apply Kd.V_drew)); exact HO_32.out⟩, ⟨bk BK330.out⟩, ⟨bk BK336.out⟩, ⟨bl⟩⟩
      ·rw [if_neg c22] at H
       have c22b0 : decide (x34_1 < (y337.length : Int)) = false := decide_eq_false c22
       clear c22
       by_cases c30 : 0 ≤ t335
       rotate_left
       ·rw [if_neg c30] at H
        exact ab H
       rw [if_pos c30] at H
       have c30b0 := eq_true c30
       have c30b1 : decide (0 ≤ t335) = true := decide_eq_true c30
       clear c30
       by_cases c31 : t335 ≤ (t331.length : Int)
       rotate_left
       ·rw [if_neg c31] at H
        exact ab H
       rw [if_pos c31] at H
       have c31b0 := eq_true c31
       have c31b1 : decide (t335 ≤ (t331.length : Int)) = true := decide_eq_true c31
       clear c31
       obtain ⟨y343, hy343⟩ : ∃ y_ : List ByteArray, y_ = (t331.take (t335 : Int).toNat) := ⟨_, rfl⟩
       replace H : (head_Parse.j1 k1 y343 t332 x337001_1 (decide (t335 < 0))) = some (r1, r2, r3, r4) := by first | (rw [hy343]; with_reducible exact H) | (have H2_ := (Option.bind_some _ _).symm.trans H; rw [hy343]; with_reducible exact H2_) | (have H2_ := (Option.bind_some _ _).symm.trans H; with_reducible exact H2_) | with_reducible exact H | (rw [hy343]; exact H) | exact H
       have Ny343 := Aside0.mk hy343
       clear hy343
       have H' := Aside0.mk H
       clear H
       have q32 : (t335 : Int) ≤ ((t331.length : Int) : Int) := od
       obtain ⟨i032, hi032, _, hsz32, _⟩ := info_parts info9
       have hcut32 := cut_to (P := Tryz.prog) 84 9 .i64 Tryz.underlying84 hi032 Ao11 t331.length co11 t335 (od) q32 (Kd.Q_reads' HO_4.out).2.1
       have hr32 := Kd.Q_take (m := (t335 : Int).toNat) HO_4.out (by omega)
       have hy32 : y343.length = (t335 : Int).toNat := (by rw [Ny343.out, List.length_take]; omega)
       rw [← Ny343.out] at hr32
       rw [← hy32] at hr32 hcut32
       clear hy32 hi032 hsz32 HO_4
       have HO345 := Aside0.mk hr32
       clear hr32
       replace q32 := eq_true q32
       go_wp2
       go_meet
       case rel => exact ⟨_, (y343), (x337001_1), H', ⟨by have := HK1.out; first | omega | exact Nat.le_refl _⟩, ⟨by (with_reducible repeat (first | apply Kd.Q_alloc | apply Kd.Q_drewN | apply Kd.Q_drew)); exact HO345.out⟩, ⟨bk BK330.out⟩, ⟨bk BK336.out⟩, ⟨bl⟩⟩
  case rest =>
   clear HC8
   try clear c1
   try clear c2
   try clear c2b0
   try clear c2b1
   try clear p2
   try clear q2
   try clear c3
   try clear p3
   try clear q3
   try clear hx3
   try clear c4
   try clear p6
   try clear c13
   try clear c17
   try clear c17b0
   try clear c19
   try clear c19b0
   try clear c19b1
   try clear c20
   try clear c20b0
   try clear c20b1
   try clear c21
   try clear q21
   try clear c22
   try clear c22b0
   try clear c23
   try clear c23b0
   try clear c24
   try clear c24b0
   try clear c25
   try clear c25b0
   try clear c25b1
   try clear c25b2
   try clear c26
   try clear c26b0
   try clear c26b1
   try clear c26b2
   try clear c27
   try clear c30
   try clear c30b0
   try clear c30b1
   try clear c31
   try clear c31b0
   try clear c31b1
   try clear q32
   try clear hcz14_0
   try clear hcz14_1
   try clear hcz14_2
   try clear hcz16_0
   try clear hcz16_1
   try clear hcz16_2
   try clear hcz28_0
   try clear hcz28_1
   try clear hcz28_2
   try clear hcz4_0
   try clear hcz4_1
   try clear hcz4_2
   try clear hfz14_0
   try clear hfz14_1
   try clear hfz14_2
   try clear hfz16_0
   try clear hfz16_1
   try clear hfz16_2
   try clear hfz28_0
   try clear hfz28_1
   try clear hfz28_2
   try clear hfz4_0
   try clear hfz4_1
   try clear hfz4_2
   try clear hx342_0
   try clear p2
   try clear p342
   try clear p6
   try clear q021
   try clear q2
   try clear q21
   try clear q32
   try clear q342
   obtain ⟨kq, x4_7, x337001_7, HA, HJ7, HO_4, BK330, BK336, HB⟩ := hcut
   cases kq with
   | zero => exact absurd HA.out (by simp [head_Parse.j1])
   | succ kj7 =>
    have H := HA.out
    clear HA
    simp only [head_Parse.j1] at H
    have H' := Aside0.mk H
    clear H
    go_wp2
    go_loopg [4, 5] kj7 (fun kq v4 v5 w' => ∃ (x4_2 : List ByteArray) (x5_2 : Bool) (x337000_2 : List (S72)) (u337000 : Value), v5 = .bool x5_2 ∧ Aside0 (head_Parse.l1 kq x4_2 x5_2 x337000_2 x337001_7 (decide (t335 < 0)) = some (r1, r2, r3, r4)) ∧ Aside0 (kq ≤ kj7) ∧ Aside0 (Kd.Q Kd.string 9 w' w.heap.size (fun _ => True) v4 x4_2) ∧ Aside0 (Kd.R k72 72 w' w.heap.size (fun _ => True) u337000 x337000_2) ∧ Aside0 (w'.heap[gb330]? = some (.cells #[(.slice none 0 0), .string (⟨#[]⟩ : ByteArray), .bool false] 24 (0, 0))) ∧ Aside0 (w'.heap[gb336]? = some (.cells #[u337000, .string x337001_7, .bool (decide (t335 < 0))] 24 (0, 0))) ∧ Aside0 (Below w.heap.size w w'))
    case atStart => exact ⟨(x4_7), (t332), (([] : List (S72))), (.slice none 0 0), rs, H', ⟨Nat.le_refl _⟩, ⟨by (with_reducible repeat (first | apply Kd.Q_alloc | apply Kd.Q_drewN | apply Kd.Q_drew)); exact HO_4.out⟩, ⟨by first | exact Kd.R_nil _ _ _ _ _ | exact Kd.N_nil _ _ _ _ _ | exact Kd.V_nil _ _ _ _ _ | exact Kd.Q_nil _ _ _ _ _ | exact Kd.S_nil _ _ _ _ _⟩, ⟨bk BK330.out⟩, ⟨bk BK336.out⟩, ⟨bl⟩⟩
    case round =>
     clear H'
     try clear c1
     try clear c2
     try clear c2b0
     try clear c2b1
     try clear p2
     try clear q2
     try clear c3
     try clear p3
     try clear q3
     try clear hx3
     try clear c4
     try clear p6
     try clear c13
     try clear c17
     try clear c17b0
     try clear c19
     try clear c19b0
     try clear c19b1
     try clear c20
     try clear c20b0
     try clear c20b1
     try clear c21
     try clear q21
     try clear c22
     try clear c22b0
     try clear c23
     try clear c23b0
     try clear c24
     try clear c24b0
     try clear c25
     try clear c25b0
     try clear c25b1
     try clear c25b2
     try clear c26
     try clear c26b0
     try clear c26b1
     try clear c26b2
     try clear c27
     try clear c30
     try clear c30b0
     try clear c30b1
     try clear c31
     try clear c31b0
     try clear c31b1
     try clear q32
     try clear hcz14_0
     try clear hcz14_1
     try clear hcz14_2
     try clear hcz16_0
     try clear hcz16_1
     try clear hcz16_2
     try clear hcz28_0
     try clear hcz28_1
     try clear hcz28_2
     try clear hcz4_0
     try clear hcz4_1
     try clear hcz4_2
     try clear hfz14_0
     try clear hfz14_1
     try clear hfz14_2
     try clear hfz16_0
     try clear hfz16_1
     try clear hfz16_2
     try clear hfz28_0
     try clear hfz28_1
     try clear hfz28_2
     try clear hfz4_0
     try clear hfz4_1
     try clear hfz4_2
     try clear hx342_0
     try clear p2
     try clear p3
     try clear p342
     try clear p6
     try clear q021
     try clear q2
     try clear q21
     try clear q3
     try clear q32
     try clear q342
     obtain ⟨x4_2, x5_2, x337000_2, u337000, rfl, HA, HK2, HO_4, HO_337000, BK330, BK336, HB⟩ := hrel
     cases gk with
     | zero => exact absurd HA.out (by simp [head_Parse.l1])
     | succ k2 =>
      have H := HA.out
      clear HA
      simp only [head_Parse.l1] at H
      have HC33 := Aside0.mk H
      clear H
      go_upto_region 13 with (fail)
      go_cut [53] (fun v53 wc => ∃ (kq : Nat) (x53_32 : Bool), v53 = .bool x53_32 ∧ Aside0 (head_Parse.j3 kq x4_2 x5_2 x53_32 x337000_2 x337001_7 (decide (t335 < 0)) = some (r1, r2, r3, r4)) ∧ Aside0 (kq ≤ k2) ∧ Aside0 (Kd.Q Kd.string 9 wc w.heap.size (fun _ => True) u4 x4_2) ∧ Aside0 (Kd.R k72 72 wc w.heap.size (fun _ => True) u337000 x337000_2) ∧ Aside0 (wc.heap[gb330]? = some (.cells #[(.slice none 0 0), .string (⟨#[]⟩ : ByteArray), .bool false] 24 (0, 0))) ∧ Aside0 (wc.heap[gb336]? = some (.cells #[u337000, .string x337001_7, .bool (decide (t335 < 0))] 24 (0, 0))) ∧ Aside0 (Below w.heap.size w wc))
      case first =>
       have H := HC33.out
       clear HC33
       by_cases c34 : x5_2 = true
       ·subst c34
        replace H : (head_Parse.j3 k2 x4_2 true (decide ((x4_2.length : Int) > 0)) x337000_2 x337001_7 (decide (t335 < 0))) = some (r1, r2, r3, r4) := by rw [if_pos rfl] at H; exact H
        have H' := Aside0.mk H
        clear H
        obtain ⟨Ao35, co35, eo35, _⟩ := Kd.Q_slice HO_4.out
        subst eo35
        go_wp2
        go_meet
        case rel => exact ⟨_, (decide ((x4_2.length : Int) > 0)), rs, H', ⟨by have := HJ7.out; have := HK2.out; first | omega | exact Nat.le_refl _⟩, ⟨by (with_reducible repeat (first | apply Kd.Q_alloc | apply Kd.Q_drewN | apply Kd.Q_drew)); exact HO_4.out⟩, ⟨kr HO_337000.out⟩, ⟨bk BK330.out⟩, ⟨bk BK336.out⟩, ⟨bl⟩⟩
       ·replace c34 := Bool.eq_false_iff.mpr c34
        subst c34
        replace H : (head_Parse.j3 k2 x4_2 false false x337000_2 x337001_7 (decide (t335 < 0))) = some (r1, r2, r3, r4) := by rw [if_neg (show ¬ (false = true) by decide)] at H; exact H
        have H' := Aside0.mk H
        clear H
        go_wp2
        go_meet
        case rel => exact ⟨_, (false), rs, H', ⟨by have := HJ7.out; have := HK2.out; first | omega | exact Nat.le_refl _⟩, ⟨by (with_reducible repeat (first | apply Kd.Q_alloc | apply Kd.Q_drewN | apply Kd.Q_drew)); exact HO_4.out⟩, ⟨kr HO_337000.out⟩, ⟨bk BK330.out⟩, ⟨bk BK336.out⟩, ⟨bl⟩⟩
      case rest =>
       clear HC33
       try clear c1
       try clear c2
       try clear c2b0
       try clear c2b1
       try clear p2
       try clear q2
       try clear c3
       try clear p3
       try clear q3
       try clear hx3
       try clear c4
       try clear p6
       try clear c13
       try clear c17
       try clear c17b0
       try clear c19
       try clear c19b0
       try clear c19b1
       try clear c20
       try clear c20b0
       try clear c20b1
       try clear c21
       try clear q21
       try clear c22
       try clear c22b0
       try clear c23
       try clear c23b0
       try clear c24
       try clear c24b0
       try clear c25
       try clear c25b0
       try clear c25b1
       try clear c25b2
       try clear c26
       try clear c26b0
       try clear c26b1
       try clear c26b2
       try clear c27
       try clear c30
       try clear c30b0
       try clear c30b1
       try clear c31
       try clear c31b0
       try clear c31b1
       try clear q32
       try clear c34
       try clear p34
       try clear q34
       try clear hx34
       try clear hcz14_0
       try clear hcz14_1
       try clear hcz14_2
       try clear hcz16_0
       try clear hcz16_1
       try clear hcz16_2
       try clear hcz28_0
       try clear hcz28_1
       try clear hcz28_2
       try clear hcz4_0
       try clear hcz4_1
       try clear hcz4_2
       try clear hfz14_0
       try clear hfz14_1
       try clear hfz14_2
       try clear hfz16_0
       try clear hfz16_1
       try clear hfz16_2
       try clear hfz28_0
       try clear hfz28_1
       try clear hfz28_2
       try clear hfz4_0
       try clear hfz4_1
       try clear hfz4_2
       try clear hx342_0
       try clear p2
       try clear p3
       try clear p342
       try clear p6
       try clear q021
       try clear q2
       try clear q21
       try clear q3
       try clear q32
       try clear q342
       obtain ⟨kq, x53_32, rfl, HA, HJ32, HO_4, HO_337000, BK330, BK336, HB⟩ := hcut
       cases kq with
       | zero => exact absurd HA.out (by simp [head_Parse.j3])
       | succ kj32 =>
        have H := HA.out
        clear HA
        simp only [head_Parse.j3] at H
        by_cases c36 : x53_32 = true
        ·subst c36
         replace H : (head_Parse.l2 kj32 x4_2 1 x337000_2 x337001_7 (decide (t335 < 0))) = some (r1, r2, r3, r4) := by rw [if_pos rfl] at H; exact H
         have H' := Aside0.mk H
         clear H
         go_wp2
         go_loopg [10] kj32 (fun kq v10 w' => ∃ (x10_4 : Int), v10 = .int .i64 x10_4 ∧ Aside0 (head_Parse.l2 kq x4_2 x10_4 x337000_2 x337001_7 (decide (t335 < 0)) = some (r1, r2, r3, r4)) ∧ Aside0 (kq ≤ kj32) ∧ Aside0 (Kd.Q Kd.string 9 w' w.heap.size (fun _ => True) u4 x4_2) ∧ Aside0 (Kd.R k72 72 w' w.heap.size (fun _ => True) u337000 x337000_2) ∧ Aside0 (w'.heap[gb330]? = some (.cells #[(.slice none 0 0), .string (⟨#[]⟩ : ByteArray), .bool false] 24 (0, 0))) ∧ Aside0 (w'.heap[gb336]? = some (.cells #[u337000, .string x337001_7, .bool (decide (t335 < 0))] 24 (0, 0))) ∧ Aside0 (Below w.heap.size w w'))
         case atStart => exact ⟨(1), rs, H', ⟨Nat.le_refl _⟩, ⟨by (with_reducible repeat (first | apply Kd.Q_alloc | apply Kd.Q_drewN | apply Kd.Q_drew)); exact HO_4.out⟩, ⟨kr HO_337000.out⟩, ⟨bk BK330.out⟩, ⟨bk BK336.out⟩, ⟨bl⟩⟩
         case round =>
          clear H'
          try clear c1
          try clear c2
          try clear c2b0
          try clear c2b1
          try clear p2
          try clear q2
          try clear c3
          try clear p3
          try clear q3
          try clear hx3
          try clear c4
          try clear p6
          try clear c13
          try clear c17
          try clear c17b0
          try clear c19
          try clear c19b0
          try clear c19b1
          try clear c20
          try clear c20b0
          try clear c20b1
          try clear c21
          try clear q21
          try clear c22
          try clear c22b0
          try clear c23
          try clear c23b0
          try clear c24
          try clear c24b0
          try clear c25
          try clear c25b0
          try clear c25b1
          try clear c25b2
          try clear c26
          try clear c26b0
          try clear c26b1
          try clear c26b2
          try clear c27
          try clear c30
          try clear c30b0
          try clear c30b1
          try clear c31
          try clear c31b0
          try clear c31b1
          try clear q32
          try clear c34
          try clear p34
          try clear q34
          try clear hx34
          try clear c36
          try clear hcz14_0
          try clear hcz14_1
          try clear hcz14_2
          try clear hcz16_0
          try clear hcz16_1
          try clear hcz16_2
          try clear hcz28_0
          try clear hcz28_1
          try clear hcz28_2
          try clear hcz4_0
          try clear hcz4_1
          try clear hcz4_2
          try clear hfz14_0
          try clear hfz14_1
          try clear hfz14_2
          try clear hfz16_0
          try clear hfz16_1
          try clear hfz16_2
          try clear hfz28_0
          try clear hfz28_1
          try clear hfz28_2
          try clear hfz4_0
          try clear hfz4_1
          try clear hfz4_2
          try clear hx342_0
          try clear p2
          try clear p3
          try clear p34
          try clear p342
          try clear p6
          try clear q021
          try clear q2
          try clear q21
          try clear q3
          try clear q32
          try clear q34
          try clear q342
          obtain ⟨x10_4, rfl, HA, HK4, HO_4, HO_337000, BK330, BK336, HB⟩ := hrel
          cases gk with
          | zero => exact absurd HA.out (by simp [head_Parse.l2])
          | succ k4 =>
           have H := HA.out
           clear HA
           simp only [head_Parse.l2] at H
           by_cases c37 : x10_4 < (x4_2.length : Int)
           ·rw [if_pos c37] at H
            have c37b0 : decide (x10_4 < (x4_2.length : Int)) = true := decide_eq_true c37
            clear c37
            by_cases c38 : 0 ≤ x10_4
            rotate_left
            ·rw [if_neg c38] at H
             exact ab H
            rw [if_pos c38] at H
            have c38b0 : decide (0 ≤ x10_4) = true := decide_eq_true c38
            clear c38
            obtain ⟨t347, A390, H⟩ := Option.bind_eq_some_iff.mp H
            replace H : (if t347 = true then (head_Parse.l2 k4 x4_2 (wrap64 (x10_4 + 1)) x337000_2 x337001_7 (decide (t335 < 0))) else (if x10_4 ≤ (x4_2.length : Int) then ((head_field.f k4 (x4_2.take (x10_4 : Int).toNat)).bind fun bt353 => (if bt353.2.2.2 = true then (if x337000_2.length < 2932031007402 then (head_Parse.l1 k4 (x4_2.drop (x10_4 : Int).toNat) bt353.2.2.2 (x337000_2 ++ [(⟨bt353.1, bt353.2.1, bt353.2.2.1⟩ : S72)]) x337001_7 (decide (t335 < 0))) else (none)) else (head_Parse.l1 k4 (x4_2.drop (x10_4 : Int).toNat) bt353.2.2.2 x337000_2 x337001_7 (decide (t335 < 0))))) else (none))) = some (r1, r2, r3, r4) := H
            have A39 := Aside0.mk A390
            clear A390
            by_cases c40 : t347 = true
            ·subst c40
             replace H : (head_Parse.l2 k4 x4_2 (wrap64 (x10_4 + 1)) x337000_2 x337001_7 (decide (t335 < 0))) = some (r1, r2, r3, r4) := by rw [if_pos rfl] at H; exact H
             have H' := Aside0.mk H
             clear H
             obtain ⟨Ao41, co41, eo41, _⟩ := Kd.Q_slice HO_4.out
             subst eo41
             have p346 : 0 ≤ (x10_4 : Int) := od
             have q346 : x10_4 < (x4_2.length : Int) := od
             obtain ⟨ad346, e346, hx346_0⟩ := Kd.at_string (Kd.Q_reads' HO_4.out).2.2 x10_4 p346 q346
             cases e346
             replace p346 := eq_true p346
             replace q346 := eq_true q346
             go_wp2_with (first | (go_at_call 49; (with_reducible refine (head_white.calls (rdOf ByteArray.empty x4_2 x10_4) true _ A39.out).mono ?_); rintro e w' ⟨rfl, ⟨nd, rfl⟩⟩))
             go_roundg k4
             case measure => have := HJ7.out; have := HK2.out; have := HJ32.out; have := HK4.out; omega
             case rel => exact ⟨(wrap64 (x10_4 + 1)), rs, H', ⟨by have := HJ7.out; have := HK2.out; have := HJ32.out; have := HK4.out; omega⟩, ⟨by (with_reducible repeat (first | apply Kd.Q_alloc | apply Kd.Q_drewN | apply Kd.Q_drew)); exact HO_4.out⟩, ⟨kr HO_337000.out⟩, ⟨bk BK330.out⟩, ⟨bk BK336.out⟩, ⟨bl⟩⟩
            ·replace c40 := Bool.eq_false_iff.mpr c40
             subst c40
             replace H : (if x10_4 ≤ (x4_2.length : Int) then ((head_field.f k4 (x4_2.take (x10_4 : Int).toNat)).bind fun bt353 => (if bt353.2.2.2 = true then (if x337000_2.length < 2932031007402 then (head_Parse.l1 k4 (x4_2.drop (x10_4 : Int).toNat) bt353.2.2.2 (x337000_2 ++ [(⟨bt353.1, bt353.2.1, bt353.2.2.1⟩ : S72)]) x337001_7 (decide (t335 < 0))) else (none)) else (head_Parse.l1 k4 (x4_2.drop (x10_4 : Int).toNat) bt353.2.2.2 x337000_2 x337001_7 (decide (t335 < 0))))) else (none)) = some (r1, r2, r3, r4) := by rw [if_neg (show ¬ (false = true) by decide)] at H; exact H
             have c42b0 := eq_true (od : 0 ≤ x10_4)
             by_cases c43 : x10_4 ≤ (x4_2.length : Int)
             rotate_left
             ·rw [if_neg c43] at H
              exact ab H
             rw [if_pos c43] at H
             have c43b0 := eq_true c43
             have c43b1 : decide (x10_4 ≤ (x4_2.length : Int)) = true := decide_eq_true c43
             clear c43
             obtain ⟨y349, hy349⟩ : ∃ y_ : List ByteArray, y_ = (x4_2.take (x10_4 : Int).toNat) := ⟨_, rfl⟩
             replace H : ((head_field.f k4 y349).bind fun bt353 => (if bt353.2.2.2 = true then (if x337000_2.length < 2932031007402 then (head_Parse.l1 k4 (x4_2.drop (x10_4 : Int).toNat) bt353.2.2.2 (x337000_2 ++ [(⟨bt353.1, bt353.2.1, bt353.2.2.1⟩ : S72)]) x337001_7 (decide (t335 < 0))) else (none)) else (head_Parse.l1 k4 (x4_2.drop (x10_4 : Int).toNat) bt353.2.2.2 x337000_2 x337001_7 (decide (t335 < 0))))) = some (r1, r2, r3, r4) := by first | (rw [hy349]; with_reducible exact H) | (have H2_ := (Option.bind_some _ _).symm.trans H; rw [hy349]; with_reducible exact H2_) | (have H2_ := (Option.bind_some _ _).symm.trans H; with_reducible exact H2_) | with_reducible exact H | (rw [hy349]; exact H) | exact H
             have Ny349 := Aside0.mk hy349
             clear hy349
             obtain ⟨⟨t353, t354, t355, t356⟩, A440, H⟩ := Option.bind_eq_some_iff.mp H
             replace H : (if t356 = true then (if x337000_2.length < 2932031007402 then (head_Parse.l1 k4 (x4_2.drop (x10_4 : Int).toNat) t356 (x337000_2 ++ [(⟨t353, t354, t355⟩ : S72)]) x337001_7 (decide (t335 < 0))) else (none)) else (head_Parse.l1 k4 (x4_2.drop (x10_4 : Int).toNat) t356 x337000_2 x337001_7 (decide (t335 < 0)))) = some (r1, r2, r3, r4) := H
             have A44 := Aside0.mk A440
             clear A440
             by_cases c45 : t356 = true
             ·subst c45
              replace H : (if x337000_2.length < 2932031007402 then (head_Parse.l1 k4 (x4_2.drop (x10_4 : Int).toNat) true (x337000_2 ++ [(⟨t353, t354, t355⟩ : S72)]) x337001_7 (decide (t335 < 0))) else (none)) = some (r1, r2, r3, r4) := by rw [if_pos rfl] at H; exact H
              by_cases c46 : x337000_2.length < 2932031007402
              rotate_left
              ·rw [if_neg c46] at H
               exact ab H
              rw [if_pos c46] at H
              have LMc46 := Aside0.mk c46
              clear c46
              obtain ⟨y357, hy357⟩ : ∃ y_ : List (S72), y_ = (x337000_2 ++ [(⟨t353, t354, t355⟩ : S72)]) := ⟨_, rfl⟩
              replace H : (head_Parse.l1 k4 (x4_2.drop (x10_4 : Int).toNat) true y357 x337001_7 (decide (t335 < 0))) = some (r1, r2, r3, r4) := by first | (rw [hy357]; with_reducible exact H) | (have H2_ := (Option.bind_some _ _).symm.trans H; rw [hy357]; with_reducible exact H2_) | (have H2_ := (Option.bind_some _ _).symm.trans H; with_reducible exact H2_) | with_reducible exact H | (rw [hy357]; exact H) | exact H
              have Ny357 := Aside0.mk hy357
              clear hy357
              have c47b0 := eq_true (od : x10_4 ≤ (x4_2.length : Int))
              obtain ⟨y360, hy360⟩ : ∃ y_ : List ByteArray, y_ = (x4_2.drop (x10_4 : Int).toNat) := ⟨_, rfl⟩
              replace H : (head_Parse.l1 k4 y360 true y357 x337001_7 (decide (t335 < 0))) = some (r1, r2, r3, r4) := by first | (rw [hy360]; with_reducible exact H) | (have H2_ := (Option.bind_some _ _).symm.trans H; rw [hy360]; with_reducible exact H2_) | (have H2_ := (Option.bind_some _ _).symm.trans H; with_reducible exact H2_) | with_reducible exact H | (rw [hy360]; exact H) | exact H
              have Ny360 := Aside0.mk hy360
              clear hy360
              have H' := Aside0.mk H
              clear H
              obtain ⟨Ao48, co48, eo48, _⟩ := Kd.Q_slice HO_4.out
              subst eo48
              have p346 : 0 ≤ (x10_4 : Int) := od
              have q346 : x10_4 < (x4_2.length : Int) := od
              obtain ⟨ad346, e346, hx346_0⟩ := Kd.at_string (Kd.Q_reads' HO_4.out).2.2 x10_4 p346 q346
              cases e346
              replace p346 := eq_true p346
              replace q346 := eq_true q346
              go_wp2_with (first | (go_at_call 49; (with_reducible refine (head_white.calls (rdOf ByteArray.empty x4_2 x10_4) false _ A39.out).mono ?_); rintro e w' ⟨rfl, ⟨nd, rfl⟩⟩; (try (rw [drewN_self wr]; generalize hq_ : World.drewN wr _ = wr; have n0_ : Aside0 (Kd.R k72 72 wr w.heap.size (fun _ => True) u337000 x337000_2) := ⟨by rw [← hq_]; exact (kr HO_337000.out)⟩; have n1_ : Aside0 (Kd.Q Kd.string 9 wr w.heap.size (fun _ => True) (.slice (some ad346) x4_2.length co48) x4_2) := ⟨by rw [← hq_]; exact (by (with_reducible repeat (first | apply Kd.Q_alloc | apply Kd.Q_drewN | apply Kd.Q_drew)); exact HO_4.out)⟩; have n2_ : Aside0 (wr.heap[gb330]? = some (.cells #[.slice none 0 0, .string (⟨#[]⟩ : ByteArray), .bool false] 24 (0, 0))) := ⟨by rw [← hq_]; exact (bk BK330.out)⟩; have n3_ : Aside0 (wr.heap[gb336]? = some (.cells #[u337000, .string x337001_7, .bool (decide (t335 < 0))] 24 (0, 0))) := ⟨by rw [← hq_]; exact (bk BK336.out)⟩; have n4_ : Aside0 (Below w.heap.size w wr) := ⟨by rw [← hq_]; exact bl⟩; clear HO_337000 HO_4 BK330 BK336 HB hq_; have HO_337000 := n0_; have HO_4 := n1_; have BK330 := n2_; have BK336 := n3_; have HB := n4_; clear n0_ n1_ n2_ n3_ n4_))) | ((with_reducible refine gate_dst (N := 11) rfl ?_); (try (refine gate_guard (by rfl) ?_; dsimp only)); refine box_event ?hg (N := 11) ?hd (cs := #[.string (⟨#[]⟩ : ByteArray), .string (⟨#[]⟩ : ByteArray), .string (⟨#[]⟩ : ByteArray)]) (t := 72) ?hr ?_; (case hd => rfl); (case hg => rfl); (case hr => first | (go_simp; done) | (go_simp; rfl)); intro gb348 hg w49 hbox hb; replace HO_4 := Aside0.mk (Kd.Q_below (by (with_reducible repeat (first | apply Kd.Q_alloc | apply Kd.Q_drewN | apply Kd.Q_drew)); exact HO_4.out) hb); replace HO_337000 := Aside0.mk (Kd.R_below (Kd.R_elderB (kr HO_337000.out) gb348 (Nat.le_of_eq hg.symm)) hb); have BK348 := Aside0.mk (hbox); have GW348 := Aside0.mk (gz hg : w.heap.size ≤ gb348); have GE348 := Aside0.mk (gz hg : w.heap.size ≤ gb348); replace HB := Aside0.mk (below_step bl hb); have NB330_348 := Aside0.mk (nl hg BK330.out : gb330 ≠ gb348); have NB348_330 := Aside0.mk (ng hg BK330.out : gb348 ≠ gb330); replace BK330 := Aside0.mk (kb BK330.out hb); have NB336_348 := Aside0.mk (nl hg BK336.out : gb336 ≠ gb348); have NB348_336 := Aside0.mk (ng hg BK336.out : gb348 ≠ gb336); replace BK336 := Aside0.mk (kb BK336.out hb); clear hb hbox hg; have q50 : (x10_4 : Int) ≤ ((x4_2.length : Int) : Int) := od; obtain ⟨i050, hi050, _, hsz50, _⟩ := info_parts info9; have hroom50 : x4_2.length ≤ co48 := (Kd.Q_reads' HO_4.out).2.1; have hC50 : Kd.C Kd.string _ (some ad346) x4_2.length x4_2 := (Kd.Q_reads' HO_4.out).2.2; have hcut50 := cut_to (P := Tryz.prog) 84 9 .i64 Tryz.underlying84 hi050 (some ad346) x4_2.length co48 x10_4 (od) q50 hroom50; have hr50 := Kd.C_take (m := (x10_4 : Int).toNat) hC50 (by omega); have hy50 : y349.length = (x10_4 : Int).toNat := (by rw [Ny349.out, List.length_take]; omega); rw [← Ny349.out] at hr50; rw [← hy50] at hcut50; have HR352 := Aside0.mk hr50; have HC352 := Aside0.mk (show y349.length ≤ co48 from by omega); clear hr50 hC50 hroom50 hi050 hsz50; have KY50 := Aside0.mk hy50; clear hy50; have KL50 := Aside0.mk (show (x10_4 : Int).toNat ≤ x4_2.length from by omega); replace q50 := eq_true q50) | ((with_reducible refine gate_callee (f := 50) rfl ?_); refine goesL_ (some 71) rfl rfl Tryz.func50 kf rfl #[.slice (some ad346) y349.length co48] rfl ml ?_; (with_reducible refine (head_field.calls k4 _ _ y349 t353 t354 t355 true _ ?side1 ?side2 ?side3 A44.out).mono ?_); (case side1 => repeat (first | exact (by repeat (first | (with_reducible exact HR352.out) | (with_reducible refine Kd.C_alloc ?_ _) | (with_reducible refine Kd.C_drewN ?_ _) | (with_reducible refine Kd.C_drew ?_) | exact HR352.out)) | (with_reducible refine Kd.C_alloc ?_ _) | (with_reducible refine Kd.C_drewN ?_ _) | (with_reducible refine Kd.C_drew ?_))); (case side2 => exact HC352.out); (case side3 => exact Glob.below HG.out bl); rintro e w51 ⟨rfl, hb⟩; refine ⟨_, rfl, ?_⟩; replace HO_4 := Aside0.mk (Kd.Q_below (by (with_reducible repeat (first | apply Kd.Q_alloc | apply Kd.Q_drewN | apply Kd.Q_drew)); exact HO_4.out) hb); replace HO_337000 := Aside0.mk (Kd.R_below (kr HO_337000.out) hb); replace BK330 := Aside0.mk (kb BK330.out hb); replace BK336 := Aside0.mk (kb BK336.out hb); replace BK348 := Aside0.mk (kb BK348.out hb); replace HR352 := Aside0.mk (Kd.C_below (by repeat (first | (with_reducible exact HR352.out) | (with_reducible refine Kd.C_alloc ?_ _) | (with_reducible refine Kd.C_drewN ?_ _) | (with_reducible refine Kd.C_drew ?_) | exact HR352.out)) hb); replace HB := Aside0.mk (below_step bl hb); (try clear hb); (try clear hb2); (try clear hk); (try clear hi); have hnb52 := NB348_330.out; have hnc52 := NB330_348.out; have hnb53 := NB348_336.out; have hnc53 := NB336_348.out; have hcz54_0 := cz BK348.out 0 (.string (⟨#[]⟩ : ByteArray)); have hcz54_1 := cz BK348.out 1 (.string (⟨#[]⟩ : ByteArray)); have hcz54_2 := cz BK348.out 2 (.string (⟨#[]⟩ : ByteArray)); have hfz54_0 := blk_frozen BK348.out 0; have hfz54_1 := blk_frozen BK348.out 1; have hfz54_2 := blk_frozen BK348.out 2; have hnb55 := NB336_330.out; have hnc55 := NB330_336.out; have hcz56_0 := cz BK336.out 0 (u337000); have hcz56_1 := cz BK336.out 1 (.string x337001_7); have hcz56_2 := cz BK336.out 2 (.bool (decide (t335 < 0))); have hfz56_0 := blk_frozen BK336.out 0; have hfz56_1 := blk_frozen BK336.out 1; have hfz56_2 := blk_frozen BK336.out 2) | ((with_reducible refine gate_builtin (b := .append) (xs := #[.tmp 76, .tmp 78]) rfl ?_); (try (refine gate_guard (by rfl) ?_; dsimp only)); at_builtin; refine Kd.R_append k72 (w0 := w) w.heap.size rfl (.tmp 76) (.tmp 78) 22 72 (.agg #[(.string ⟨#[]⟩), (.string ⟨#[]⟩), (.string ⟨#[]⟩)]) 48 rfl Tryz.underlying22 info72 rfl (by decide) (by omega) u337000 x337000_2 (⟨t353, t354, t355⟩ : S72) [.string t353, .string t354, .string t355] (fun k_ => k_ ≠ gb348) (fun _ => False) rfl (by first | (go_simp; done) | (go_simp; rfl)) ?aP (fun _ hk => hk.elim) ?aF ?aO ?aB ?aS ?aL ?_; (case aP => exact k72_mkM _ _ _ (⟨t353, t354, t355⟩ : S72)); (case aB => exact bl); (case aF => exact (fun k_ hk => Kd.freshB (g := gb348) (o := .cells #[.string t353, .string t354, .string t355] 72 (0, 0)) (by (with_reducible repeat (first | refine blk_drewN ?_ _ | refine blk_drew ?_ | refine blk_alloc ?_ _)); refine blk_put (cs := #[.string t353, .string t354, .string (⟨#[]⟩ : ByteArray)]) ?_ 2 _ rfl; (with_reducible repeat (first | refine blk_drewN ?_ _ | refine blk_drew ?_ | refine blk_alloc ?_ _)); refine blk_put (cs := #[.string t353, .string (⟨#[]⟩ : ByteArray), .string (⟨#[]⟩ : ByteArray)]) ?_ 1 _ rfl; (with_reducible repeat (first | refine blk_drewN ?_ _ | refine blk_drew ?_ | refine blk_alloc ?_ _)); refine blk_put (cs := #[.string (⟨#[]⟩ : ByteArray), .string (⟨#[]⟩ : ByteArray), .string (⟨#[]⟩ : ByteArray)]) ?_ 0 _ rfl; (with_reducible repeat (first | refine blk_drewN ?_ _ | refine blk_drew ?_ | refine blk_alloc ?_ _)); exact BK348.out) k_ hk)); (case aO => exact (by (with_reducible repeat (first | apply Kd.R_alloc | apply Kd.R_drewN | apply Kd.R_drew)); exact Kd.R_mono (Kd.R_far (p := ⟨gb348, 2, none⟩) (Kd.R_far (p := ⟨gb348, 1, none⟩) (Kd.R_far (p := ⟨gb348, 0, none⟩) (Kd.R_mono HO_337000.out (fun k_ hk => (⟨hk, hk.2⟩ : _ ∧ k_ ≠ gb348))) (fun _ hk => hk.2) (.string t353)) (fun _ hk => hk.2) (.string t354)) (fun _ hk => hk.2) (.string t355)) (fun _ hk => hk.1.2))); (case aS => exact (below_size bl)); (case aL => have := LMc46.out; omega); intro v358 w57 ho hb hg hat; rw [← Ny357.out] at ho; replace BK330 := Aside0.mk (blk_grown (g := gb330) (o := .cells #[.slice none 0 0, .string (⟨#[]⟩ : ByteArray), .bool false] 24 (0, 0)) (bk BK330.out) hg (Kd.R_ne HO_337000.out BK330.out (by decide))); replace BK336 := Aside0.mk (blk_grown (g := gb336) (o := .cells #[u337000, .string x337001_7, .bool (decide (t335 < 0))] 24 (0, 0)) (bk BK336.out) hg (Kd.R_ne HO_337000.out BK336.out (by decide))); replace HB := Aside0.mk (hb); replace HR352 := Aside0.mk ((show Kd.C Kd.string w57 (some ad346) y349.length y349 from by rw [Ny349.out]; exact Kd.C_take (m := (x10_4 : Int).toNat) ((Kd.Q_reads' (Kd.Q_over' (by (with_reducible repeat (first | apply Kd.Q_alloc | apply Kd.Q_drewN | apply Kd.Q_drew)); exact (Kd.Q_mono (Kd.Q_far (p := ⟨gb348, 2, none⟩) (Kd.Q_far (p := ⟨gb348, 1, none⟩) (Kd.Q_far (p := ⟨gb348, 0, none⟩) (Kd.Q_types HO_4.out BK348.out (by decide)) (fun _ hk => hk.2) (.string t353)) (fun _ hk => hk.2) (.string t354)) (fun _ hk => hk.2) (.string t355)) (fun _ h_ => h_.1))) (Kd.R_typed (by (with_reducible repeat (first | apply Kd.R_alloc | apply Kd.R_drewN | apply Kd.R_drew)); exact (Kd.R_mono (Kd.R_far (p := ⟨gb348, 2, none⟩) (Kd.R_far (p := ⟨gb348, 1, none⟩) (Kd.R_far (p := ⟨gb348, 0, none⟩) (Kd.R_mono HO_337000.out (fun k_ hk => (⟨hk, hk.2⟩ : _ ∧ k_ ≠ gb348))) (fun _ hk => hk.2) (.string t353)) (fun _ hk => hk.2) (.string t354)) (fun _ hk => hk.2) (.string t355)) (fun _ h_ => h_.1)))) (by decide) hg)).2.2) KL50.out)); replace HO_4 := Aside0.mk (Kd.Q_over' (by (with_reducible repeat (first | apply Kd.Q_alloc | apply Kd.Q_drewN | apply Kd.Q_drew)); exact (Kd.Q_mono (Kd.Q_far (p := ⟨gb348, 2, none⟩) (Kd.Q_far (p := ⟨gb348, 1, none⟩) (Kd.Q_far (p := ⟨gb348, 0, none⟩) (Kd.Q_types HO_4.out BK348.out (by decide)) (fun _ hk => hk.2) (.string t353)) (fun _ hk => hk.2) (.string t354)) (fun _ hk => hk.2) (.string t355)) (fun _ h_ => h_.1))) (Kd.R_typed (by (with_reducible repeat (first | apply Kd.R_alloc | apply Kd.R_drewN | apply Kd.R_drew)); exact (Kd.R_mono (Kd.R_far (p := ⟨gb348, 2, none⟩) (Kd.R_far (p := ⟨gb348, 1, none⟩) (Kd.R_far (p := ⟨gb348, 0, none⟩) (Kd.R_mono HO_337000.out (fun k_ hk => (⟨hk, hk.2⟩ : _ ∧ k_ ≠ gb348))) (fun _ hk => hk.2) (.string t353)) (fun _ hk => hk.2) (.string t354)) (fun _ hk => hk.2) (.string t355)) (fun _ h_ => h_.1)))) (by decide) hg); replace BK348 := Aside0.mk (blk_grown (g := gb348) (o := .cells #[.string t353, .string t354, .string t355] 72 (0, 0)) (by (with_reducible repeat (first | refine blk_drewN ?_ _ | refine blk_drew ?_ | refine blk_alloc ?_ _)); refine blk_put (cs := #[.string t353, .string t354, .string (⟨#[]⟩ : ByteArray)]) ?_ 2 _ rfl; (with_reducible repeat (first | refine blk_drewN ?_ _ | refine blk_drew ?_ | refine blk_alloc ?_ _)); refine blk_put (cs := #[.string t353, .string (⟨#[]⟩ : ByteArray), .string (⟨#[]⟩ : ByteArray)]) ?_ 1 _ rfl; (with_reducible repeat (first | refine blk_drewN ?_ _ | refine blk_drew ?_ | refine blk_alloc ?_ _)); refine blk_put (cs := #[.string (⟨#[]⟩ : ByteArray), .string (⟨#[]⟩ : ByteArray), .string (⟨#[]⟩ : ByteArray)]) ?_ 0 _ rfl; (with_reducible repeat (first | refine blk_drewN ?_ _ | refine blk_drew ?_ | refine blk_alloc ?_ _)); exact BK348.out) hg (Kd.R_away HO_337000.out (fun _ hk => hk.2))); have HO359 := Aside0.mk (ho); clear HO_337000 ho hb hg hat; obtain ⟨Ao58, co58, eo58⟩ := Kd.R_slice HO359.out; subst eo58; have hcz59_0 := cz BK336.out 0 (u337000); have hcz59_1 := cz BK336.out 1 (.string x337001_7); have hcz59_2 := cz BK336.out 2 (.bool (decide (t335 < 0))); have hfz59_0 := blk_frozen BK336.out 0; have hfz59_1 := blk_frozen BK336.out 1; have hfz59_2 := blk_frozen BK336.out 2) | ((with_reducible refine gate_store (t := 22) (p := 80) rfl ?_); refine store_event (t := 22) (p := 80) (v := ?vo_w60) (w1 := (w57.setCell ⟨gb336, 0, none⟩ (.slice Ao58 y357.length co58))) ?hg ?ho ?hn ?hr ?_; (case ho => rfl); (case hg => rfl); (case hn => rfl); (case hr => first | (go_simp; done) | (go_simp; rfl)); intro w60 hw; have n0_ : Aside0 (Kd.Q Kd.string 9 w60 w.heap.size (fun _ => True) (.slice (some ad346) x4_2.length co48) x4_2) := ⟨(by rw [hw]; exact (by (with_reducible repeat (first | apply Kd.Q_alloc | apply Kd.Q_drewN | apply Kd.Q_drew)); exact Kd.Q_mono (Kd.Q_far (p := ⟨gb336, 0, none⟩) (Kd.Q_types HO_4.out BK336.out (by decide)) (fun _ hk => hk.2) (.slice Ao58 y357.length co58)) (fun _ hk => trivial)))⟩; have n1_ : Aside0 (Kd.R k72 72 w60 w.heap.size (fun k_ => k_ ≠ gb348) (.slice Ao58 y357.length co58) y357) := ⟨(by rw [hw]; exact (by (with_reducible repeat (first | apply Kd.R_alloc | apply Kd.R_drewN | apply Kd.R_drew)); exact Kd.R_mono (Kd.R_far (p := ⟨gb336, 0, none⟩) (Kd.R_types HO359.out BK336.out (by decide)) (fun _ hk => hk.2) (.slice Ao58 y357.length co58)) (fun _ hk => hk.1)))⟩; have n2_ : Aside0 (w60.heap[gb330]? = some (.cells #[.slice none 0 0, .string (⟨#[]⟩ : ByteArray), .bool false] 24 (0, 0))) := ⟨(by rw [hw]; exact (bk BK330.out))⟩; have n3_ : Aside0 (w60.heap[gb336]? = some (.cells #[.slice Ao58 y357.length co58, .string x337001_7, .bool (decide (t335 < 0))] 24 (0, 0))) := ⟨(by rw [hw]; exact (by (with_reducible repeat (first | refine blk_drewN ?_ _ | refine blk_drew ?_ | refine blk_alloc ?_ _)); refine blk_put (cs := #[u337000, .string x337001_7, .bool (decide (t335 < 0))]) ?_ 0 _ rfl; (with_reducible repeat (first | refine blk_drewN ?_ _ | refine blk_drew ?_ | refine blk_alloc ?_ _)); exact BK336.out))⟩; have n4_ : Aside0 (w60.heap[gb348]? = some (.cells #[.string t353, .string t354, .string t355] 72 (0, 0))) := ⟨(by rw [hw]; exact (bk BK348.out))⟩; have n5_ : Aside0 (Below w.heap.size w w60) := ⟨(by rw [hw]; exact bl)⟩; clear hw HO_4; clear HO359 BK330; clear BK336 BK348; clear HB; have HO_4 := n0_; have HO359 := n1_; have BK330 := n2_; have BK336 := n3_; have BK348 := n4_; have HB := n5_; clear n0_ n1_ n2_ n3_ n4_ n5_; have q61 : (x10_4 : Int) ≤ ((x4_2.length : Int) : Int) := od; obtain ⟨i061, hi061, _, hsz61, _⟩ := info_parts info9; have hcut61 := cut_from (P := Tryz.prog) 84 9 .i64 Tryz.underlying84 hi061 1 hsz61 (some ad346) x4_2.length co48 x10_4 (od) q61; have hr61 := Kd.Q_drop (k := (x10_4 : Int).toNat) HO_4.out (by omega); obtain ⟨A61, hA61⟩ : ∃ A1, A1 = (if co48 = (x10_4 : Int).toNat then (some ad346) else ((some ad346) : Option Addr).map (·.add ((x10_4 : Int).toNat * 1))) := ⟨_, rfl⟩; obtain ⟨c61, hc61⟩ : ∃ c1, c1 = co48 - (x10_4 : Int).toNat := ⟨_, rfl⟩; have hy61 : y360.length = x4_2.length - (x10_4 : Int).toNat := (by rw [Ny360.out, List.length_drop]); rw [← Ny360.out] at hr61; rw [← hy61, ← hA61, ← hc61] at hcut61; replace hr61 : Kd.Q Kd.string 9 w60 w.heap.size (fun _ => True) (.slice A61 y360.length c61) y360 := (by rw [hA61, hc61, hy61]; exact hr61); have HE61 : Aside0 ((Value.slice A61 y360.length c61).ownBlock = (.slice (some ad346) x4_2.length co48 : Value).ownBlock) := ⟨by rw [hA61]; split <;> (cases ((some ad346) : Option Addr) <;> first | rfl | (simp only [Option.map_some, Value.ownBlock, add_block]; done))⟩; clear hy61 hi061 hsz61 HO_4 hA61 hc61; have HO362 := Aside0.mk hr61; clear hr61; replace q61 := eq_true q61))
              go_roundg k4
              case measure => have := HJ7.out; have := HK2.out; have := HJ32.out; have := HK4.out; omega
              case rel => exact ⟨(y360), (true), (y357), (.slice Ao58 y357.length co58), rs, H', ⟨by have := HJ7.out; have := HK2.out; have := HJ32.out; have := HK4.out; omega⟩, ⟨by (with_reducible repeat (first | apply Kd.Q_alloc | apply Kd.Q_drewN | apply Kd.Q_drew)); exact HO362.out⟩, ⟨by (with_reducible repeat (first | apply Kd.R_alloc | apply Kd.R_drewN | apply Kd.R_drew)); exact Kd.R_mono HO359.out (fun _ hk => trivial)⟩, ⟨bk BK330.out⟩, ⟨bk BK336.out⟩, ⟨bl⟩⟩
             ·replace c45 := Bool.eq_false_iff.mpr c45
              subst c45
              replace H : (head_Parse.l1 k4 (x4_2.drop (x10_4 : Int).toNat) false x337000_2 x337001_7 (decide (t335 < 0))) = some (r1, r2, r3, r4) := by rw [if_neg (show ¬ (false = true) by decide)] at H; exact H
              have c62b0 := eq_true (od : x10_4 ≤ (x4_2.length : Int))
              obtain ⟨y363, hy363⟩ : ∃ y_ : List ByteArray, y_ = (x4_2.drop (x10_4 : Int).toNat) := ⟨_, rfl⟩
              replace H : (head_Parse.l1 k4 y363 false x337000_2 x337001_7 (decide (t335 < 0))) = some (r1, r2, r3, r4) := by first | (rw [hy363]; with_reducible exact H) | (have H2_ := (Option.bind_some _ _).symm.trans H; rw [hy363]; with_reducible exact H2_) | (have H2_ := (Option.bind_some _ _).symm.trans H; with_reducible exact H2_) | with_reducible exact H | (rw [hy363]; exact H) | exact H
              have Ny363 := Aside0.mk hy363
              clear hy363
              have H' := Aside0.mk H
              clear H
              obtain ⟨Ao63, co63, eo63, _⟩ := Kd.Q_slice HO_4.out
              subst eo63
              have p346 : 0 ≤ (x10_4 : Int) := od
              have q346 : x10_4 < (x4_2.length : Int) := od
              obtain ⟨ad346, e346, hx346_0⟩ := Kd.at_string (Kd.Q_reads' HO_4.out).2.2 x10_4 p346 q346
              cases e346
              replace p346 := eq_true p346
              replace q346 := eq_true q346
              go_wp2_with (first | (go_at_call 49; (with_reducible refine (head_white.calls (rdOf ByteArray.empty x4_2 x10_4) false _ A39.out).mono ?_); rintro e w' ⟨rfl, ⟨nd, rfl⟩⟩; (try (rw [drewN_self wr]; generalize hq_ : World.drewN wr _ = wr; have n0_ : Aside0 (Kd.R k72 72 wr w.heap.size (fun _ => True) u337000 x337000_2) := ⟨by rw [← hq_]; exact (kr HO_337000.out)⟩; have n1_ : Aside0 (Kd.Q Kd.string 9 wr w.heap.size (fun _ => True) (.slice (some ad346) x4_2.length co63) x4_2) := ⟨by rw [← hq_]; exact (by (with_reducible repeat (first | apply Kd.Q_alloc | apply Kd.Q_drewN | apply Kd.Q_drew)); exact HO_4.out)⟩; have n2_ : Aside0 (wr.heap[gb330]? = some (.cells #[.slice none 0 0, .string (⟨#[]⟩ : ByteArray), .bool false] 24 (0, 0))) := ⟨by rw [← hq_]; exact (bk BK330.out)⟩; have n3_ : Aside0 (wr.heap[gb336]? = some (.cells #[u337000, .string x337001_7, .bool (decide (t335 < 0))] 24 (0, 0))) := ⟨by rw [← hq_]; exact (bk BK336.out)⟩; have n4_ : Aside0 (Below w.heap.size w wr) := ⟨by rw [← hq_]; exact bl⟩; clear HO_337000 HO_4 BK330 BK336 HB hq_; have HO_337000 := n0_; have HO_4 := n1_; have BK330 := n2_; have BK336 := n3_; have HB := n4_; clear n0_ n1_ n2_ n3_ n4_))) | ((with_reducible refine gate_dst (N := 11) rfl ?_); (try (refine gate_guard (by rfl) ?_; dsimp only)); refine box_event ?hg (N := 11) ?hd (cs := #[.string (⟨#[]⟩ : ByteArray), .string (⟨#[]⟩ : ByteArray), .string (⟨#[]⟩ : ByteArray)]) (t := 72) ?hr ?_; (case hd => rfl); (case hg => rfl); (case hr => first | (go_simp; done) | (go_simp; rfl)); intro gb348 hg w64 hbox hb; replace HO_4 := Aside0.mk (Kd.Q_below (by (with_reducible repeat (first | apply Kd.Q_alloc | apply Kd.Q_drewN | apply Kd.Q_drew)); exact HO_4.out) hb); replace HO_337000 := Aside0.mk (Kd.R_below (Kd.R_elderB (kr HO_337000.out) gb348 (Nat.le_of_eq hg.symm)) hb); have BK348 := Aside0.mk (hbox); have GW348 := Aside0.mk (gz hg : w.heap.size ≤ gb348); have GE348 := Aside0.mk (gz hg : w.heap.size ≤ gb348); replace HB := Aside0.mk (below_step bl hb); have NB330_348 := Aside0.mk (nl hg BK330.out : gb330 ≠ gb348); have NB348_330 := Aside0.mk (ng hg BK330.out : gb348 ≠ gb330); replace BK330 := Aside0.mk (kb BK330.out hb); have NB336_348 := Aside0.mk (nl hg BK336.out : gb336 ≠ gb348); have NB348_336 := Aside0.mk (ng hg BK336.out : gb348 ≠ gb336); replace BK336 := Aside0.mk (kb BK336.out hb); clear hb hbox hg; have q65 : (x10_4 : Int) ≤ ((x4_2.length : Int) : Int) := od; obtain ⟨i065, hi065, _, hsz65, _⟩ := info_parts info9; have hroom65 : x4_2.length ≤ co63 := (Kd.Q_reads' HO_4.out).2.1; have hC65 : Kd.C Kd.string _ (some ad346) x4_2.length x4_2 := (Kd.Q_reads' HO_4.out).2.2; have hcut65 := cut_to (P := Tryz.prog) 84 9 .i64 Tryz.underlying84 hi065 (some ad346) x4_2.length co63 x10_4 (od) q65 hroom65; have hr65 := Kd.C_take (m := (x10_4 : Int).toNat) hC65 (by omega); have hy65 : y349.length = (x10_4 : Int).toNat := (by rw [Ny349.out, List.length_take]; omega); rw [← Ny349.out] at hr65; rw [← hy65] at hcut65; have HR352 := Aside0.mk hr65; have HC352 := Aside0.mk (show y349.length ≤ co63 from by omega); clear hr65 hC65 hroom65 hi065 hsz65; have KY65 := Aside0.mk hy65; clear hy65; have KL65 := Aside0.mk (show (x10_4 : Int).toNat ≤ x4_2.length from by omega); replace q65 := eq_true q65) | ((with_reducible refine gate_callee (f := 50) rfl ?_); refine goesL_ (some 71) rfl rfl Tryz.func50 kf rfl #[.slice (some ad346) y349.length co63] rfl ml ?_; (with_reducible refine (head_field.calls k4 _ _ y349 t353 t354 t355 false _ ?side1 ?side2 ?side3 A44.out).mono ?_); (case side1 => repeat (first | exact (by repeat (first | (with_reducible exact HR352.out) | (with_reducible refine Kd.C_alloc ?_ _) | (with_reducible refine Kd.C_drewN ?_ _) | (with_reducible refine Kd.C_drew ?_) | exact HR352.out)) | (with_reducible refine Kd.C_alloc ?_ _) | (with_reducible refine Kd.C_drewN ?_ _) | (with_reducible refine Kd.C_drew ?_))); (case side2 => exact HC352.out); (case side3 => exact Glob.below HG.out bl); rintro e w66 ⟨rfl, hb⟩; refine ⟨_, rfl, ?_⟩; replace HO_4 := Aside0.mk (Kd.Q_below (by (with_reducible repeat (first | apply Kd.Q_alloc | apply Kd.Q_drewN | apply Kd.Q_drew)); exact HO_4.out) hb); replace HO_337000 := Aside0.mk (Kd.R_below (kr HO_337000.out) hb); replace BK330 := Aside0.mk (kb BK330.out hb); replace BK336 := Aside0.mk (kb BK336.out hb); replace BK348 := Aside0.mk (kb BK348.out hb); replace HR352 := Aside0.mk (Kd.C_below (by repeat (first | (with_reducible exact HR352.out) | (with_reducible refine Kd.C_alloc ?_ _) | (with_reducible refine Kd.C_drewN ?_ _) | (with_reducible refine Kd.C_drew ?_) | exact HR352.out)) hb); replace HB := Aside0.mk (below_step bl hb); (try clear hb); (try clear hb2); (try clear hk); (try clear hi); have hnb67 := NB348_330.out; have hnc67 := NB330_348.out; have hnb68 := NB348_336.out; have hnc68 := NB336_348.out; have hcz69_0 := cz BK348.out 0 (.string (⟨#[]⟩ : ByteArray)); have hcz69_1 := cz BK348.out 1 (.string (⟨#[]⟩ : ByteArray)); have hcz69_2 := cz BK348.out 2 (.string (⟨#[]⟩ : ByteArray)); have hfz69_0 := blk_frozen BK348.out 0; have hfz69_1 := blk_frozen BK348.out 1; have hfz69_2 := blk_frozen BK348.out 2) | ((with_reducible refine gate_store (t := 72) (p := 11) rfl ?_); refine store_event (t := 72) (p := 11) (v := ?vo_w70) (w1 := (((w66.setCell ⟨gb348, 0, none⟩ (.string t353)).setCell ⟨gb348, 1, none⟩ (.string t354)).setCell ⟨gb348, 2, none⟩ (.string t355))) ?hg ?ho ?hn ?hr ?_; (case ho => rfl); (case hg => rfl); (case hn => rfl); (case hr => first | (go_simp; done) | (go_simp; rfl)); intro w70 hw; have n0_ : Aside0 (Kd.Q Kd.string 9 w70 w.heap.size (fun _ => True) (.slice (some ad346) x4_2.length co63) x4_2) := ⟨(by rw [hw]; exact (by (with_reducible repeat (first | apply Kd.Q_alloc | apply Kd.Q_drewN | apply Kd.Q_drew)); exact Kd.Q_mono (Kd.Q_far (p := ⟨gb348, 2, none⟩) (Kd.Q_far (p := ⟨gb348, 1, none⟩) (Kd.Q_far (p := ⟨gb348, 0, none⟩) (Kd.Q_types HO_4.out BK348.out (by decide)) (fun _ hk => hk.2) (.string t353)) (fun _ hk => hk.2) (.string t354)) (fun _ hk => hk.2) (.string t355)) (fun _ hk => trivial)))⟩; have n1_ : Aside0 (Kd.R k72 72 w70 w.heap.size (fun k_ => k_ ≠ gb348) u337000 x337000_2) := ⟨(by rw [hw]; exact (by (with_reducible repeat (first | apply Kd.R_alloc | apply Kd.R_drewN | apply Kd.R_drew)); exact Kd.R_mono (Kd.R_far (p := ⟨gb348, 2, none⟩) (Kd.R_far (p := ⟨gb348, 1, none⟩) (Kd.R_far (p := ⟨gb348, 0, none⟩) (Kd.R_mono HO_337000.out (fun k_ hk => (⟨hk, hk.2⟩ : _ ∧ k_ ≠ gb348))) (fun _ hk => hk.2) (.string t353)) (fun _ hk => hk.2) (.string t354)) (fun _ hk => hk.2) (.string t355)) (fun _ hk => hk.1.2)))⟩; have n2_ : Aside0 (w70.heap[gb330]? = some (.cells #[.slice none 0 0, .string (⟨#[]⟩ : ByteArray), .bool false] 24 (0, 0))) := ⟨(by rw [hw]; exact (bk BK330.out))⟩; have n3_ : Aside0 (w70.heap[gb336]? = some (.cells #[u337000, .string x337001_7, .bool (decide (t335 < 0))] 24 (0, 0))) := ⟨(by rw [hw]; exact (bk BK336.out))⟩; have n4_ : Aside0 (w70.heap[gb348]? = some (.cells #[.string t353, .string t354, .string t355] 72 (0, 0))) := ⟨(by rw [hw]; exact (by (with_reducible repeat (first | refine blk_drewN ?_ _ | refine blk_drew ?_ | refine blk_alloc ?_ _)); refine blk_put (cs := #[.string t353, .string t354, .string (⟨#[]⟩ : ByteArray)]) ?_ 2 _ rfl; (with_reducible repeat (first | refine blk_drewN ?_ _ | refine blk_drew ?_ | refine blk_alloc ?_ _)); refine blk_put (cs := #[.string t353, .string (⟨#[]⟩ : ByteArray), .string (⟨#[]⟩ : ByteArray)]) ?_ 1 _ rfl; (with_reducible repeat (first | refine blk_drewN ?_ _ | refine blk_drew ?_ | refine blk_alloc ?_ _)); refine blk_put (cs := #[.string (⟨#[]⟩ : ByteArray), .string (⟨#[]⟩ : ByteArray), .string (⟨#[]⟩ : ByteArray)]) ?_ 0 _ rfl; (with_reducible repeat (first | refine blk_drewN ?_ _ | refine blk_drew ?_ | refine blk_alloc ?_ _)); exact BK348.out))⟩; have n5_ : Aside0 (Below w.heap.size w w70) := ⟨(by rw [hw]; exact bl)⟩; clear hw HO_4; clear HO_337000 BK330; clear BK336 BK348; clear HB; have HO_4 := n0_; have HO_337000 := n1_; have BK330 := n2_; have BK336 := n3_; have BK348 := n4_; have HB := n5_; clear n0_ n1_ n2_ n3_ n4_ n5_; have q71 : (x10_4 : Int) ≤ ((x4_2.length : Int) : Int) := od; obtain ⟨i071, hi071, _, hsz71, _⟩ := info_parts info9; have hcut71 := cut_from (P := Tryz.prog) 84 9 .i64 Tryz.underlying84 hi071 1 hsz71 (some ad346) x4_2.length co63 x10_4 (od) q71; have hr71 := Kd.Q_drop (k := (x10_4 : Int).toNat) HO_4.out (by omega); obtain ⟨A71, hA71⟩ : ∃ A1, A1 = (if co63 = (x10_4 : Int).toNat then (some ad346) else ((some ad346) : Option Addr).map (·.add ((x10_4 : Int).toNat * 1))) := ⟨_, rfl⟩; obtain ⟨c71, hc71⟩ : ∃ c1, c1 = co63 - (x10_4 : Int).toNat := ⟨_, rfl⟩; have hy71 : y363.length = x4_2.length - (x10_4 : Int).toNat := (by rw [Ny363.out, List.length_drop]); rw [← Ny363.out] at hr71; rw [← hy71, ← hA71, ← hc71] at hcut71; replace hr71 : Kd.Q Kd.string 9 w70 w.heap.size (fun _ => True) (.slice A71 y363.length c71) y363 := (by rw [hA71, hc71, hy71]; exact hr71); have HE71 : Aside0 ((Value.slice A71 y363.length c71).ownBlock = (.slice (some ad346) x4_2.length co63 : Value).ownBlock) := ⟨by rw [hA71]; split <;> (cases ((some ad346) : Option Addr) <;> first | rfl | (simp only [Option.map_some, Value.ownBlock, add_block]; done))⟩; clear hy71 hi071 hsz71 HO_4 hA71 hc71; have HO365 := Aside0.mk hr71; clear hr71; replace q71 := eq_true q71))
              go_roundg k4
              case measure => have := HJ7.out; have := HK2.out; have := HJ32.out; have := HK4.out; omega
              case rel => exact ⟨(y363), (false), (x337000_2), (u337000), rs, H', ⟨by have := HJ7.out; have := HK2.out; have := HJ32.out; have := HK4.out; omega⟩, ⟨by (with_reducible repeat (first | apply Kd.Q_alloc | apply Kd.Q_drewN | apply Kd.Q_drew)); exact HO365.out⟩, ⟨by (with_reducible repeat (first | apply Kd.R_alloc | apply Kd.R_drewN | apply Kd.R_drew)); exact Kd.R_mono HO_337000.out (fun _ hk => trivial)⟩, ⟨bk BK330.out⟩, ⟨bk BK336.out⟩, ⟨bl⟩⟩
           ·rw [if_neg c37] at H
            have c37b0 : decide (x10_4 < (x4_2.length : Int)) = false := decide_eq_false c37
            clear c37
            by_cases c72 : 0 ≤ x10_4
            rotate_left
            ·rw [if_neg c72] at H
             exact ab H
            rw [if_pos c72] at H
            have c72b0 := eq_true c72
            have c72b1 : decide (0 ≤ x10_4) = true := decide_eq_true c72
            clear c72
            by_cases c73 : x10_4 ≤ (x4_2.length : Int)
            rotate_left
            ·rw [if_neg c73] at H
             exact ab H
            rw [if_pos c73] at H
            have c73b0 := eq_true c73
            have c73b1 : decide (x10_4 ≤ (x4_2.length : Int)) = true := decide_eq_true c73
            clear c73
            obtain ⟨y367, hy367⟩ : ∃ y_ : List ByteArray, y_ = (x4_2.take (x10_4 : Int).toNat) := ⟨_, rfl⟩
            replace H : ((head_field.f k4 y367).bind fun bt371 => (if bt371.2.2.2 = true then (if x337000_2.length < 2932031007402 then (head_Parse.l1 k4 (x4_2.drop (x10_4 : Int).toNat) bt371.2.2.2 (x337000_2 ++ [(⟨bt371.1, bt371.2.1, bt371.2.2.1⟩ : S72)]) x337001_7 (decide (t335 < 0))) else (none)) else (head_Parse.l1 k4 (x4_2.drop (x10_4 : Int).toNat) bt371.2.2.2 x337000_2 x337001_7 (decide (t335 < 0))))) = some (r1, r2, r3, r4) := by first | (rw [hy367]; with_reducible exact H) | (have H2_ := (Option.bind_some _ _).symm.trans H; rw [hy367]; with_reducible exact H2_) | (have H2_ := (Option.bind_some _ _).symm.trans H; with_reducible exact H2_) | with_reducible exact H | (rw [hy367]; exact H) | exact H
            have Ny367 := Aside0.mk hy367
            clear hy367
            obtain ⟨⟨t371, t372, t373, t374⟩, A740, H⟩ := Option.bind_eq_some_iff.mp H
            replace H : (if t374 = true then (if x337000_2.length < 2932031007402 then (head_Parse.l1 k4 (x4_2.drop (x10_4 : Int).toNat) t374 (x337000_2 ++ [(⟨t371, t372, t373⟩ : S72)]) x337001_7 (decide (t335 < 0))) else (none)) else (head_Parse.l1 k4 (x4_2.drop (x10_4 : Int).toNat) t374 x337000_2 x337001_7 (decide (t335 < 0)))) = some (r1, r2, r3, r4) := H
            have A74 := Aside0.mk A740
            clear A740
            by_cases c75 : t374 = true
            ·subst c75
             replace H : (if x337000_2.length < 2932031007402 then (head_Parse.l1 k4 (x4_2.drop (x10_4 : Int).toNat) true (x337000_2 ++ [(⟨t371, t372, t373⟩ : S72)]) x337001_7 (decide (t335 < 0))) else (none)) = some (r1, r2, r3, r4) := by rw [if_pos rfl] at H; exact H
             by_cases c76 : x337000_2.length < 2932031007402
             rotate_left
             ·rw [if_neg c76] at H
              exact ab H
             rw [if_pos c76] at H
             have LMc76 := Aside0.mk c76
             clear c76
             obtain ⟨y375, hy375⟩ : ∃ y_ : List (S72), y_ = (x337000_2 ++ [(⟨t371, t372, t373⟩ : S72)]) := ⟨_, rfl⟩
             replace H : (head_Parse.l1 k4 (x4_2.drop (x10_4 : Int).toNat) true y375 x337001_7 (decide (t335 < 0))) = some (r1, r2, r3, r4) := by first | (rw [hy375]; with_reducible exact H) | (have H2_ := (Option.bind_some _ _).symm.trans H; rw [hy375]; with_reducible exact H2_) | (have H2_ := (Option.bind_some _ _).symm.trans H; with_reducible exact H2_) | with_reducible exact H | (rw [hy375]; exact H) | exact H
             have Ny375 := Aside0.mk hy375
             clear hy375
             have c77b0 := eq_true (od : x10_4 ≤ (x4_2.length : Int))
             obtain ⟨y378, hy378⟩ : ∃ y_ : List ByteArray, y_ = (x4_2.drop (x10_4 : Int).toNat) := ⟨_, rfl⟩
             replace H : (head_Parse.l1 k4 y378 true y375 x337001_7 (decide (t335 < 0))) = some (r1, r2, r3, r4) := by first | (rw [hy378]; with_reducible exact H) | (have H2_ := (Option.bind_some _ _).symm.trans H; rw [hy378]; with_reducible exact H2_) | (have H2_ := (Option.bind_some _ _).symm.trans H; with_reducible exact H2_) | with_reducible exact H | (rw [hy378]; exact H) | exact H
             have Ny378 := Aside0.mk hy378
             clear hy378
             have H' := Aside0.mk H
             clear H
             obtain ⟨Ao78, co78, eo78, _⟩ := Kd.Q_slice HO_4.out
             subst eo78
             go_wp2_with (first | ((with_reducible refine gate_dst (N := 11) rfl ?_); (try (refine gate_guard (by rfl) ?_; dsimp only)); refine box_event ?hg (N := 11) ?hd (cs := #[.string (⟨#[]⟩ : ByteArray), .string (⟨#[]⟩ : ByteArray), .string (⟨#[]⟩ : ByteArray)]) (t := 72) ?hr ?_; (case hd => rfl); (case hg => rfl); (case hr => first | (go_simp; done) | (go_simp; rfl)); intro gb366 hg w79 hbox hb; replace HO_4 := Aside0.mk (Kd.Q_below (by (with_reducible repeat (first | apply Kd.Q_alloc | apply Kd.Q_drewN | apply Kd.Q_drew)); exact HO_4.out) hb); replace HO_337000 := Aside0.mk (Kd.R_below (Kd.R_elderB (kr HO_337000.out) gb366 (Nat.le_of_eq hg.symm)) hb); have BK366 := Aside0.mk (hbox); have GW366 := Aside0.mk (gz hg : w.heap.size ≤ gb366); have GE366 := Aside0.mk (gz hg : w.heap.size ≤ gb366); replace HB := Aside0.mk (below_step bl hb); have NB330_366 := Aside0.mk (nl hg BK330.out : gb330 ≠ gb366); have NB366_330 := Aside0.mk (ng hg BK330.out : gb366 ≠ gb330); replace BK330 := Aside0.mk (kb BK330.out hb); have NB336_366 := Aside0.mk (nl hg BK336.out : gb336 ≠ gb366); have NB366_336 := Aside0.mk (ng hg BK336.out : gb366 ≠ gb336); replace BK336 := Aside0.mk (kb BK336.out hb); clear hb hbox hg; have q80 : (x10_4 : Int) ≤ ((x4_2.length : Int) : Int) := od; obtain ⟨i080, hi080, _, hsz80, _⟩ := info_parts info9; have hroom80 : x4_2.length ≤ co78 := (Kd.Q_reads' HO_4.out).2.1; have hC80 : Kd.C Kd.string _ Ao78 x4_2.length x4_2 := (Kd.Q_reads' HO_4.out).2.2; have hcut80 := cut_to (P := Tryz.prog) 84 9 .i64 Tryz.underlying84 hi080 Ao78 x4_2.length co78 x10_4 (od) q80 hroom80; have hr80 := Kd.C_take (m := (x10_4 : Int).toNat) hC80 (by omega); have hy80 : y367.length = (x10_4 : Int).toNat := (by rw [Ny367.out, List.length_take]; omega); rw [← Ny367.out] at hr80; rw [← hy80] at hcut80; have HR370 := Aside0.mk hr80; have HC370 := Aside0.mk (show y367.length ≤ co78 from by omega); clear hr80 hC80 hroom80 hi080 hsz80; have KY80 := Aside0.mk hy80; clear hy80; have KL80 := Aside0.mk (show (x10_4 : Int).toNat ≤ x4_2.length from by omega); replace q80 := eq_true q80) | ((with_reducible refine gate_callee (f := 50) rfl ?_); refine goesL_ (some 71) rfl rfl Tryz.func50 kf rfl #[.slice Ao78 y367.length co78] rfl ml ?_; (with_reducible refine (head_field.calls k4 _ _ y367 t371 t372 t373 true _ ?side1 ?side2 ?side3 A74.out).mono ?_); (case side1 => repeat (first | exact (by repeat (first | (with_reducible exact HR370.out) | (with_reducible refine Kd.C_alloc ?_ _) | (with_reducible refine Kd.C_drewN ?_ _) | (with_reducible refine Kd.C_drew ?_) | exact HR370.out)) | (with_reducible refine Kd.C_alloc ?_ _) | (with_reducible refine Kd.C_drewN ?_ _) | (with_reducible refine Kd.C_drew ?_))); (case side2 => exact HC370.out); (case side3 => exact Glob.below HG.out bl); rintro e w81 ⟨rfl, hb⟩; refine ⟨_, rfl, ?_⟩; replace HO_4 := Aside0.mk (Kd.Q_below (by (with_reducible repeat (first | apply Kd.Q_alloc | apply Kd.Q_drewN | apply Kd.Q_drew)); exact HO_4.out) hb); replace HO_337000 := Aside0.mk (Kd.R_below (kr HO_337000.out) hb); replace BK330 := Aside0.mk (kb BK330.out hb); replace BK336 := Aside0.mk (kb BK336.out hb); replace BK366 := Aside0.mk (kb BK366.out hb); replace HR370 := Aside0.mk (Kd.C_below (by repeat (first | (with_reducible exact HR370.out) | (with_reducible refine Kd.C_alloc ?_ _) | (with_reducible refine Kd.C_drewN ?_ _) | (with_reducible refine Kd.C_drew ?_) | exact HR370.out)) hb); replace HB := Aside0.mk (below_step bl hb); (try clear hb); (try clear hb2); (try clear hk); (try clear hi); have hnb82 := NB366_330.out; have hnc82 := NB330_366.out; have hnb83 := NB366_336.out; have hnc83 := NB336_366.out; have hcz84_0 := cz BK366.out 0 (.string (⟨#[]⟩ : ByteArray)); have hcz84_1 := cz BK366.out 1 (.string (⟨#[]⟩ : ByteArray)); have hcz84_2 := cz BK366.out 2 (.string (⟨#[]⟩ : ByteArray)); have hfz84_0 := blk_frozen BK366.out 0; have hfz84_1 := blk_frozen BK366.out 1; have hfz84_2 := blk_frozen BK366.out 2; have hnb85 := NB336_330.out; have hnc85 := NB330_336.out; have hcz86_0 := cz BK336.out 0 (u337000); have hcz86_1 := cz BK336.out 1 (.string x337001_7); have hcz86_2 := cz BK336.out 2 (.bool (decide (t335 < 0))); have hfz86_0 := blk_frozen BK336.out 0; have hfz86_1 := blk_frozen BK336.out 1; have hfz86_2 := blk_frozen BK336.out 2) | ((with_reducible refine gate_builtin (b := .append) (xs := #[.tmp 76, .tmp 78]) rfl ?_); (try (refine gate_guard (by rfl) ?_; dsimp only)); at_builtin; refine Kd.R_append k72 (w0 := w) w.heap.size rfl (.tmp 76) (.tmp 78) 22 72 (.agg #[(.string ⟨#[]⟩), (.string ⟨#[]⟩), (.string ⟨#[]⟩)]) 48 rfl Tryz.underlying22 info72 rfl (by decide) (by omega) u337000 x337000_2 (⟨t371, t372, t373⟩ : S72) [.string t371, .string t372, .string t373] (fun k_ => k_ ≠ gb366) (fun _ => False) rfl (by first | (go_simp; done) | (go_simp; rfl)) ?aP (fun _ hk => hk.elim) ?aF ?aO ?aB ?aS ?aL ?_; (case aP => exact k72_mkM _ _ _ (⟨t371, t372, t373⟩ : S72)); (case aB => exact bl); (case aF => exact (fun k_ hk => Kd.freshB (g := gb366) (o := .cells #[.string t371, .string t372, .string t373] 72 (0, 0)) (by (with_reducible repeat (first | refine blk_drewN ?_ _ | refine blk_drew ?_ | refine blk_alloc ?_ _)); refine blk_put (cs := #[.string t371, .string t372, .string (⟨#[]⟩ : ByteArray)]) ?_ 2 _ rfl; (with_reducible repeat (first | refine blk_drewN ?_ _ | refine blk_drew ?_ | refine blk_alloc ?_ _)); refine blk_put (cs := #[.string t371, .string (⟨#[]⟩ : ByteArray), .string (⟨#[]⟩ : ByteArray)]) ?_ 1 _ rfl; (with_reducible repeat (first | refine blk_drewN ?_ _ | refine blk_drew ?_ | refine blk_alloc ?_ _)); refine blk_put (cs := #[.string (⟨#[]⟩ : ByteArray), .string (⟨#[]⟩ : ByteArray), .string (⟨#[]⟩ : ByteArray)]) ?_ 0 _ rfl; (with_reducible repeat (first | refine blk_drewN ?_ _ | refine blk_drew ?_ | refine blk_alloc ?_ _)); exact BK366.out) k_ hk)); (case aO => exact (by (with_reducible repeat (first | apply Kd.R_alloc | apply Kd.R_drewN | apply Kd.R_drew)); exact Kd.R_mono (Kd.R_far (p := ⟨gb366, 2, none⟩) (Kd.R_far (p := ⟨gb366, 1, none⟩) (Kd.R_far (p := ⟨gb366, 0, none⟩) (Kd.R_mono HO_337000.out (fun k_ hk => (⟨hk, hk.2⟩ : _ ∧ k_ ≠ gb366))) (fun _ hk => hk.2) (.string t371)) (fun _ hk => hk.2) (.string t372)) (fun _ hk => hk.2) (.string t373)) (fun _ hk => hk.1.2))); (case aS => exact (below_size bl)); (case aL => have := LMc76.out; omega); intro v376 w87 ho hb hg hat; rw [← Ny375.out] at ho; replace BK330 := Aside0.mk (blk_grown (g := gb330) (o := .cells #[.slice none 0 0, .string (⟨#[]⟩ : ByteArray), .bool false] 24 (0, 0)) (bk BK330.out) hg (Kd.R_ne HO_337000.out BK330.out (by decide))); replace BK336 := Aside0.mk (blk_grown (g := gb336) (o := .cells #[u337000, .string x337001_7, .bool (decide (t335 < 0))] 24 (0, 0)) (bk BK336.out) hg (Kd.R_ne HO_337000.out BK336.out (by decide))); replace HB := Aside0.mk (hb); replace HR370 := Aside0.mk ((show Kd.C Kd.string w87 Ao78 y367.length y367 from by rw [Ny367.out]; exact Kd.C_take (m := (x10_4 : Int).toNat) ((Kd.Q_reads' (Kd.Q_over' (by (with_reducible repeat (first | apply Kd.Q_alloc | apply Kd.Q_drewN | apply Kd.Q_drew)); exact (Kd.Q_mono (Kd.Q_far (p := ⟨gb366, 2, none⟩) (Kd.Q_far (p := ⟨gb366, 1, none⟩) (Kd.Q_far (p := ⟨gb366, 0, none⟩) (Kd.Q_types HO_4.out BK366.out (by decide)) (fun _ hk => hk.2) (.string t371)) (fun _ hk => hk.2) (.string t372)) (fun _ hk => hk.2) (.string t373)) (fun _ h_ => h_.1))) (Kd.R_typed (by (with_reducible repeat (first | apply Kd.R_alloc | apply Kd.R_drewN | apply Kd.R_drew)); exact (Kd.R_mono (Kd.R_far (p := ⟨gb366, 2, none⟩) (Kd.R_far (p := ⟨gb366, 1, none⟩) (Kd.R_far (p := ⟨gb366, 0, none⟩) (Kd.R_mono HO_337000.out (fun k_ hk => (⟨hk, hk.2⟩ : _ ∧ k_ ≠ gb366))) (fun _ hk => hk.2) (.string t371)) (fun _ hk => hk.2) (.string t372)) (fun _ hk => hk.2) (.string t373)) (fun _ h_ => h_.1)))) (by decide) hg)).2.2) KL80.out)); replace HO_4 := Aside0.mk (Kd.Q_over' (by (with_reducible repeat (first | apply Kd.Q_alloc | apply Kd.Q_drewN | apply Kd.Q_drew)); exact (Kd.Q_mono (Kd.Q_far (p := ⟨gb366, 2, none⟩) (Kd.Q_far (p := ⟨gb366, 1, none⟩) (Kd.Q_far (p := ⟨gb366, 0, none⟩) (Kd.Q_types HO_4.out BK366.out (by decide)) (fun _ hk => hk.2) (.string t371)) (fun _ hk => hk.2) (.string t372)) (fun _ hk => hk.2) (.string t373)) (fun _ h_ => h_.1))) (Kd.R_typed (by (with_reducible repeat (first | apply Kd.R_alloc | apply Kd.R_drewN | apply Kd.R_drew)); exact (Kd.R_mono (Kd.R_far (p := ⟨gb366, 2, none⟩) (Kd.R_far (p := ⟨gb366, 1, none⟩) (Kd.R_far (p := ⟨gb366, 0, none⟩) (Kd.R_mono HO_337000.out (fun k_ hk => (⟨hk, hk.2⟩ : _ ∧ k_ ≠ gb366))) (fun _ hk => hk.2) (.string t371)) (fun _ hk => hk.2) (.string t372)) (fun _ hk => hk.2) (.string t373)) (fun _ h_ => h_.1)))) (by decide) hg); replace BK366 := Aside0.mk (blk_grown (g := gb366) (o := .cells #[.string t371, .string t372, .string t373] 72 (0, 0)) (by (with_reducible repeat (first | refine blk_drewN ?_ _ | refine blk_drew ?_ | refine blk_alloc ?_ _)); refine blk_put (cs := #[.string t371, .string t372, .string (⟨#[]⟩ : ByteArray)]) ?_ 2 _ rfl; (with_reducible repeat (first | refine blk_drewN ?_ _ | refine blk_drew ?_ | refine blk_alloc ?_ _)); refine blk_put (cs := #[.string t371, .string (⟨#[]⟩ : ByteArray), .string (⟨#[]⟩ : ByteArray)]) ?_ 1 _ rfl; (with_reducible repeat (first | refine blk_drewN ?_ _ | refine blk_drew ?_ | refine blk_alloc ?_ _)); refine blk_put (cs := #[.string (⟨#[]⟩ : ByteArray), .string (⟨#[]⟩ : ByteArray), .string (⟨#[]⟩ : ByteArray)]) ?_ 0 _ rfl; (with_reducible repeat (first | refine blk_drewN ?_ _ | refine blk_drew ?_ | refine blk_alloc ?_ _)); exact BK366.out) hg (Kd.R_away HO_337000.out (fun _ hk => hk.2))); have HO377 := Aside0.mk (ho); clear HO_337000 ho hb hg hat; obtain ⟨Ao88, co88, eo88⟩ := Kd.R_slice HO377.out; subst eo88; have hcz89_0 := cz BK336.out 0 (u337000); have hcz89_1 := cz BK336.out 1 (.string x337001_7); have hcz89_2 := cz BK336.out 2 (.bool (decide (t335 < 0))); have hfz89_0 := blk_frozen BK336.out 0; have hfz89_1 := blk_frozen BK336.out 1; have hfz89_2 := blk_frozen BK336.out 2) | ((with_reducible refine gate_store (t := 22) (p := 80) rfl ?_); refine store_event (t := 22) (p := 80) (v := ?vo_w90) (w1 := (w87.setCell ⟨gb336, 0, none⟩ (.slice Ao88 y375.length co88))) ?hg ?ho ?hn ?hr ?_; (case ho => rfl); (case hg => rfl); (case hn => rfl); (case hr => first | (go_simp; done) | (go_simp; rfl)); intro w90 hw; have n0_ : Aside0 (Kd.Q Kd.string 9 w90 w.heap.size (fun _ => True) (.slice Ao78 x4_2.length co78) x4_2) := ⟨(by rw [hw]; exact (by (with_reducible repeat (first | apply Kd.Q_alloc | apply Kd.Q_drewN | apply Kd.Q_drew)); exact Kd.Q_mono (Kd.Q_far (p := ⟨gb336, 0, none⟩) (Kd.Q_types HO_4.out BK336.out (by decide)) (fun _ hk => hk.2) (.slice Ao88 y375.length co88)) (fun _ hk => trivial)))⟩; have n1_ : Aside0 (Kd.R k72 72 w90 w.heap.size (fun k_ => k_ ≠ gb366) (.slice Ao88 y375.length co88) y375) := ⟨(by rw [hw]; exact (by (with_reducible repeat (first | apply Kd.R_alloc | apply Kd.R_drewN | apply Kd.R_drew)); exact Kd.R_mono (Kd.R_far (p := ⟨gb336, 0, none⟩) (Kd.R_types HO377.out BK336.out (by decide)) (fun _ hk => hk.2) (.slice Ao88 y375.length co88)) (fun _ hk => hk.1)))⟩; have n2_ : Aside0 (w90.heap[gb330]? = some (.cells #[.slice none 0 0, .string (⟨#[]⟩ : ByteArray), .bool false] 24 (0, 0))) := ⟨(by rw [hw]; exact (bk BK330.out))⟩; have n3_ : Aside0 (w90.heap[gb336]? = some (.cells #[.slice Ao88 y375.length co88, .string x337001_7, .bool (decide (t335 < 0))] 24 (0, 0))) := ⟨(by rw [hw]; exact (by (with_reducible repeat (first | refine blk_drewN ?_ _ | refine blk_drew ?_ | refine blk_alloc ?_ _)); refine blk_put (cs := #[u337000, .string x337001_7, .bool (decide (t335 < 0))]) ?_ 0 _ rfl; (with_reducible repeat (first | refine blk_drewN ?_ _ | refine blk_drew ?_ | refine blk_alloc ?_ _)); exact BK336.out))⟩; have n4_ : Aside0 (w90.heap[gb366]? = some (.cells #[.string t371, .string t372, .string t373] 72 (0, 0))) := ⟨(by rw [hw]; exact (bk BK366.out))⟩; have n5_ : Aside0 (Below w.heap.size w w90) := ⟨(by rw [hw]; exact bl)⟩; clear hw HO_4; clear HO377 BK330; clear BK336 BK366; clear HB; have HO_4 := n0_; have HO377 := n1_; have BK330 := n2_; have BK336 := n3_; have BK366 := n4_; have HB := n5_; clear n0_ n1_ n2_ n3_ n4_ n5_; have q91 : (x10_4 : Int) ≤ ((x4_2.length : Int) : Int) := od; obtain ⟨i091, hi091, _, hsz91, _⟩ := info_parts info9; have hcut91 := cut_from (P := Tryz.prog) 84 9 .i64 Tryz.underlying84 hi091 1 hsz91 Ao78 x4_2.length co78 x10_4 (od) q91; have hr91 := Kd.Q_drop (k := (x10_4 : Int).toNat) HO_4.out (by omega); obtain ⟨A91, hA91⟩ : ∃ A1, A1 = (if co78 = (x10_4 : Int).toNat then Ao78 else (Ao78 : Option Addr).map (·.add ((x10_4 : Int).toNat * 1))) := ⟨_, rfl⟩; obtain ⟨c91, hc91⟩ : ∃ c1, c1 = co78 - (x10_4 : Int).toNat := ⟨_, rfl⟩; have hy91 : y378.length = x4_2.length - (x10_4 : Int).toNat := (by rw [Ny378.out, List.length_drop]); rw [← Ny378.out] at hr91; rw [← hy91, ← hA91, ← hc91] at hcut91; replace hr91 : Kd.Q Kd.string 9 w90 w.heap.size (fun _ => True) (.slice A91 y378.length c91) y378 := (by rw [hA91, hc91, hy91]; exact hr91); have HE91 : Aside0 ((Value.slice A91 y378.length c91).ownBlock = (.slice Ao78 x4_2.length co78 : Value).ownBlock) := ⟨by rw [hA91]; split <;> (cases (Ao78 : Option Addr) <;> first | rfl | (simp only [Option.map_some, Value.ownBlock, add_block]; done))⟩; clear hy91 hi091 hsz91 HO_4 hA91 hc91; have HO380 := Aside0.mk hr91; clear hr91; replace q91 := eq_true q91))
             go_roundg k4
             case measure => have := HJ7.out; have := HK2.out; have := HJ32.out; have := HK4.out; omega
             case rel => exact ⟨(y378), (true), (y375), (.slice Ao88 y375.length co88), rs, H', ⟨by have := HJ7.out; have := HK2.out; have := HJ32.out; have := HK4.out; omega⟩, ⟨by (with_reducible repeat (first | apply Kd.Q_alloc | apply Kd.Q_drewN | apply Kd.Q_drew)); exact HO380.out⟩, ⟨by (with_reducible repeat (first | apply Kd.R_alloc | apply Kd.R_drewN | apply Kd.R_drew)); exact Kd.R_mono HO377.out (fun _ hk => trivial)⟩, ⟨bk BK330.out⟩, ⟨bk BK336.out⟩, ⟨bl⟩⟩
            ·replace c75 := Bool.eq_false_iff.mpr c75
             subst c75
             replace H : (head_Parse.l1 k4 (x4_2.drop (x10_4 : Int).toNat) false x337000_2 x337001_7 (decide (t335 < 0))) = some (r1, r2, r3, r4) := by rw [if_neg (show ¬ (false = true) by decide)] at H; exact H
             have c92b0 := eq_true (od : x10_4 ≤ (x4_2.length : Int))
             obtain ⟨y381, hy381⟩ : ∃ y_ : List ByteArray, y_ = (x4_2.drop (x10_4 : Int).toNat) := ⟨_, rfl⟩
             replace H : (head_Parse.l1 k4 y381 false x337000_2 x337001_7 (decide (t335 < 0))) = some (r1, r2, r3, r4) := by first | (rw [hy381]; with_reducible exact H) | (have H2_ := (Option.bind_some _ _).symm.trans H; rw [hy381]; with_reducible exact H2_) | (have H2_ := (Option.bind_some _ _).symm.trans H; with_reducible exact H2_) | with_reducible exact H | (rw [hy381]; exact H) | exact H
             have Ny381 := Aside0.mk hy381
             clear hy381
             have H' := Aside0.mk H
             clear H
             obtain ⟨Ao93, co93, eo93, _⟩ := Kd.Q_slice HO_4.out
             subst eo93
             go_wp2_with (first | ((with_reducible refine gate_dst (N := 11) rfl ?_); (try (refine gate_guard (by rfl) ?_; dsimp only)); refine box_event ?hg (N := 11) ?hd (cs := #[.string (⟨#[]⟩ : ByteArray), .string (⟨#[]⟩ : ByteArray), .string (⟨#[]⟩ : ByteArray)]) (t := 72) ?hr ?_; (case hd => rfl); (case hg => rfl); (case hr => first | (go_simp; done) | (go_simp; rfl)); intro gb366 hg w94 hbox hb; replace HO_4 := Aside0.mk (Kd.Q_below (by (with_reducible repeat (first | apply Kd.Q_alloc | apply Kd.Q_drewN | apply Kd.Q_drew)); exact HO_4.out) hb); replace HO_337000 := Aside0.mk (Kd.R_below (Kd.R_elderB (kr HO_337000.out) gb366 (Nat.le_of_eq hg.symm)) hb); have BK366 := Aside0.mk (hbox); have GW366 := Aside0.mk (gz hg : w.heap.size ≤ gb366); have GE366 := Aside0.mk (gz hg : w.heap.size ≤ gb366); replace HB := Aside0.mk (below_step bl hb); have NB330_366 := Aside0.mk (nl hg BK330.out : gb330 ≠ gb366); have NB366_330 := Aside0.mk (ng hg BK330.out : gb366 ≠ gb330); replace BK330 := Aside0.mk (kb BK330.out hb); have NB336_366 := Aside0.mk (nl hg BK336.out : gb336 ≠ gb366); have NB366_336 := Aside0.mk (ng hg BK336.out : gb366 ≠ gb336); replace BK336 := Aside0.mk (kb BK336.out hb); clear hb hbox hg; have q95 : (x10_4 : Int) ≤ ((x4_2.length : Int) : Int) := od; obtain ⟨i095, hi095, _, hsz95, _⟩ := info_parts info9; have hroom95 : x4_2.length ≤ co93 := (Kd.Q_reads' HO_4.out).2.1; have hC95 : Kd.C Kd.string _ Ao93 x4_2.length x4_2 := (Kd.Q_reads' HO_4.out).2.2; have hcut95 := cut_to (P := Tryz.prog) 84 9 .i64 Tryz.underlying84 hi095 Ao93 x4_2.length co93 x10_4 (od) q95 hroom95; have hr95 := Kd.C_take (m := (x10_4 : Int).toNat) hC95 (by omega); have hy95 : y367.length = (x10_4 : Int).toNat := (by rw [Ny367.out, List.length_take]; omega); rw [← Ny367.out] at hr95; rw [← hy95] at hcut95; have HR370 := Aside0.mk hr95; have HC370 := Aside0.mk (show y367.length ≤ co93 from by omega); clear hr95 hC95 hroom95 hi095 hsz95; have KY95 := Aside0.mk hy95; clear hy95; have KL95 := Aside0.mk (show (x10_4 : Int).toNat ≤ x4_2.length from by omega); replace q95 := eq_true q95) | ((with_reducible refine gate_callee (f := 50) rfl ?_); refine goesL_ (some 71) rfl rfl Tryz.func50 kf rfl #[.slice Ao93 y367.length co93] rfl ml ?_; (with_reducible refine (head_field.calls k4 _ _ y367 t371 t372 t373 false _ ?side1 ?side2 ?side3 A74.out).mono ?_); (case side1 => repeat (first | exact (by repeat (first | (with_reducible exact HR370.out) | (with_reducible refine Kd.C_alloc ?_ _) | (with_reducible refine Kd.C_drewN ?_ _) | (with_reducible refine Kd.C_drew ?_) | exact HR370.out)) | (with_reducible refine Kd.C_alloc ?_ _) | (with_reducible refine Kd.C_drewN ?_ _) | (with_reducible refine Kd.C_drew ?_))); (case side2 => exact HC370.out); (case side3 => exact Glob.below HG.out bl); rintro e w96 ⟨rfl, hb⟩; refine ⟨_, rfl, ?_⟩; replace HO_4 := Aside0.mk (Kd.Q_below (by (with_reducible repeat (first | apply Kd.Q_alloc | apply Kd.Q_drewN | apply Kd.Q_drew)); exact HO_4.out) hb); replace HO_337000 := Aside0.mk (Kd.R_below (kr HO_337000.out) hb); replace BK330 := Aside0.mk (kb BK330.out hb); replace BK336 := Aside0.mk (kb BK336.out hb); replace BK366 := Aside0.mk (kb BK366.out hb); replace HR370 := Aside0.mk (Kd.C_below (by repeat (first | (with_reducible exact HR370.out) | (with_reducible refine Kd.C_alloc ?_ _) | (with_reducible refine Kd.C_drewN ?_ _) | (with_reducible refine Kd.C_drew ?_) | exact HR370.out)) hb); replace HB := Aside0.mk (below_step bl hb); (try clear hb); (try clear hb2); (try clear hk); (try clear hi); have hnb97 := NB366_330.out; have hnc97 := NB330_366.out; have hnb98 := NB366_336.out; have hnc98 := NB336_366.out; have hcz99_0 := cz BK366.out 0 (.string (⟨#[]⟩ : ByteArray)); have hcz99_1 := cz BK366.out 1 (.string (⟨#[]⟩ : ByteArray)); have hcz99_2 := cz BK366.out 2 (.string (⟨#[]⟩ : ByteArray)); have hfz99_0 := blk_frozen BK366.out 0; have hfz99_1 := blk_frozen BK366.out 1; have hfz99_2 := blk_frozen BK366.out 2) | ((with_reducible refine gate_store (t := 72) (p := 11) rfl ?_); refine store_event (t := 72) (p := 11) (v := ?vo_w100) (w1 := (((w96.setCell ⟨gb366, 0, none⟩ (.string t371)).setCell ⟨gb366, 1, none⟩ (.string t372)).setCell ⟨gb366, 2, none⟩ (.string t373))) ?hg ?ho ?hn ?hr ?_; (case ho => rfl); (case hg => rfl); (case hn => rfl); (case hr => first | (go_simp; done) | (go_simp; rfl)); intro w100 hw; have n0_ : Aside0 (Kd.Q Kd.string 9 w100 w.heap.size (fun _ => True) (.slice Ao93 x4_2.length co93) x4_2) := ⟨(by rw [hw]; exact (by (with_reducible repeat (first | apply Kd.Q_alloc | apply Kd.Q_drewN | apply Kd.Q_drew)); exact Kd.Q_mono (Kd.Q_far (p := ⟨gb366, 2, none⟩) (Kd.Q_far (p := ⟨gb366, 1, none⟩) (Kd.Q_far (p := ⟨gb366, 0, none⟩) (Kd.Q_types HO_4.out BK366.out (by decide)) (fun _ hk => hk.2) (.string t371)) (fun _ hk => hk.2) (.string t372)) (fun _ hk => hk.2) (.string t373)) (fun _ hk => trivial)))⟩; have n1_ : Aside0 (Kd.R k72 72 w100 w.heap.size (fun k_ => k_ ≠ gb366) u337000 x337000_2) := ⟨(by rw [hw]; exact (by (with_reducible repeat (first | apply Kd.R_alloc | apply Kd.R_drewN | apply Kd.R_drew)); exact Kd.R_mono (Kd.R_far (p := ⟨gb366, 2, none⟩) (Kd.R_far (p := ⟨gb366, 1, none⟩) (Kd.R_far (p := ⟨gb366, 0, none⟩) (Kd.R_mono HO_337000.out (fun k_ hk => (⟨hk, hk.2⟩ : _ ∧ k_ ≠ gb366))) (fun _ hk => hk.2) (.string t371)) (fun _ hk => hk.2) (.string t372)) (fun _ hk => hk.2) (.string t373)) (fun _ hk => hk.1.2)))⟩; have n2_ : Aside0 (w100.heap[gb330]? = some (.cells #[.slice none 0 0, .string (⟨#[]⟩ : ByteArray), .bool false] 24 (0, 0))) := ⟨(by rw [hw]; exact (bk BK330.out))⟩; have n3_ : Aside0 (w100.heap[gb336]? = some (.cells #[u337000, .string x337001_7, .bool (decide (t335 < 0))] 24 (0, 0))) := ⟨(by rw [hw]; exact (bk BK336.out))⟩; have n4_ : Aside0 (w100.heap[gb366]? = some (.cells #[.string t371, .string t372, .string t373] 72 (0, 0))) := ⟨(by rw [hw]; exact (by (with_reducible repeat (first | refine blk_drewN ?_ _ | refine blk_drew ?_ | refine blk_alloc ?_ _)); refine blk_put (cs := #[.string t371, .string t372, .string (⟨#[]⟩ : ByteArray)]) ?_ 2 _ rfl; (with_reducible repeat (first | refine blk_drewN ?_ _ | refine blk_drew ?_ | refine blk_alloc ?_ _)); refine blk_put (cs := #[.string t371, .string (⟨#[]⟩ : ByteArray), .string (⟨#[]⟩ : ByteArray)]) ?_ 1 _ rfl; (with_reducible repeat (first | refine blk_drewN ?_ _ | refine blk_drew ?_ | refine blk_alloc ?_ _)); refine blk_put (cs := #[.string (⟨#[]⟩ : ByteArray), .string (⟨#[]⟩ : ByteArray), .string (⟨#[]⟩ : ByteArray)]) ?_ 0 _ rfl; (with_reducible repeat (first | refine blk_drewN ?_ _ | refine blk_drew ?_ | refine blk_alloc ?_ _)); exact BK366.out))⟩; have n5_ : Aside0 (Below w.heap.size w w100) := ⟨(by rw [hw]; exact bl)⟩; clear hw HO_4; clear HO_337000 BK330; clear BK336 BK366; clear HB; have HO_4 := n0_; have HO_337000 := n1_; have BK330 := n2_; have BK336 := n3_; have BK366 := n4_; have HB := n5_; clear n0_ n1_ n2_ n3_ n4_ n5_; have q101 : (x10_4 : Int) ≤ ((x4_2.length : Int) : Int) := od; obtain ⟨i0101, hi0101, _, hsz101, _⟩ := info_parts info9; have hcut101 := cut_from (P := Tryz.prog) 84 9 .i64 Tryz.underlying84 hi0101 1 hsz101 Ao93 x4_2.length co93 x10_4 (od) q101; have hr101 := Kd.Q_drop (k := (x10_4 : Int).toNat) HO_4.out (by omega); obtain ⟨A101, hA101⟩ : ∃ A1, A1 = (if co93 = (x10_4 : Int).toNat then Ao93 else (Ao93 : Option Addr).map (·.add ((x10_4 : Int).toNat * 1))) := ⟨_, rfl⟩; obtain ⟨c101, hc101⟩ : ∃ c1, c1 = co93 - (x10_4 : Int).toNat := ⟨_, rfl⟩; have hy101 : y381.length = x4_2.length - (x10_4 : Int).toNat := (by rw [Ny381.out, List.length_drop]); rw [← Ny381.out] at hr101; rw [← hy101, ← hA101, ← hc101] at hcut101; replace hr101 : Kd.Q Kd.string 9 w100 w.heap.size (fun _ => True) (.slice A101 y381.length c101) y381 := (by rw [hA101, hc101, hy101]; exact hr101); have HE101 : Aside0 ((Value.slice A101 y381.length c101).ownBlock = (.slice Ao93 x4_2.length co93 : Value).ownBlock) := ⟨by rw [hA101]; split <;> (cases (Ao93 : Option Addr) <;> first | rfl | (simp only [Option.map_some, Value.ownBlock, add_block]; done))⟩; clear hy101 hi0101 hsz101 HO_4 hA101 hc101; have HO383 := Aside0.mk hr101; clear hr101; replace q101 := eq_true q101))
             go_roundg k4
             case measure => have := HJ7.out; have := HK2.out; have := HJ32.out; have := HK4.out; omega
             case rel => exact ⟨(y381), (false), (x337000_2), (u337000), rs, H', ⟨by have := HJ7.out; have := HK2.out; have := HJ32.out; have := HK4.out; omega⟩, ⟨by (with_reducible repeat (first | apply Kd.Q_alloc | apply Kd.Q_drewN | apply Kd.Q_drew)); exact HO383.out⟩, ⟨by (with_reducible repeat (first | apply Kd.R_alloc | apply Kd.R_drewN | apply Kd.R_drew)); exact Kd.R_mono HO_337000.out (fun _ hk => trivial)⟩, ⟨bk BK330.out⟩, ⟨bk BK336.out⟩, ⟨bl⟩⟩
        ·replace c36 := Bool.eq_false_iff.mpr c36
         subst c36
         replace H : (if x5_2 = true then (some (x337000_2, x337001_7, (decide (t335 < 0)), 0)) else (some (([] : List (S72)), (⟨#[]⟩ : ByteArray), false, 5))) = some (r1, r2, r3, r4) := by rw [if_neg (show ¬ (false = true) by decide)] at H; exact H
         by_cases c102 : x5_2 = true
         ·subst c102
          replace H : (some (x337000_2, x337001_7, (decide (t335 < 0)), 0)) = some (r1, r2, r3, r4) := by rw [if_pos rfl] at H; exact H
          simp only [Option.some.injEq, Prod.mk.injEq] at H
          obtain ⟨rfl, rfl, rfl, rfl⟩ := H
          have hnb103 := NB336_330.out
          have hnc103 := NB330_336.out
          have hcz104_0 := cz BK336.out 0 (u337000)
          have hcz104_1 := cz BK336.out 1 (.string x337001_7)
          have hcz104_2 := cz BK336.out 2 (.bool (decide (t335 < 0)))
          have hfz104_0 := blk_frozen BK336.out 0
          have hfz104_1 := blk_frozen BK336.out 1
          have hfz104_2 := blk_frozen BK336.out 2
          obtain ⟨Ao105, co105, eo105⟩ := Kd.R_slice HO_337000.out
          subst eo105
          have hcz106_0 := cz BK330.out 0 (.slice none 0 0)
          have hcz106_1 := cz BK330.out 1 (.string (⟨#[]⟩ : ByteArray))
          have hcz106_2 := cz BK330.out 2 (.bool false)
          have hfz106_0 := blk_frozen BK330.out 0
          have hfz106_1 := blk_frozen BK330.out 1
          have hfz106_2 := blk_frozen BK330.out 2
          go_wp2_with (first | ((with_reducible refine gate_store (t := 24) (p := 2) rfl ?_); refine store_event (t := 24) (p := 2) (v := ?vo_w107) (w1 := (((wc.setCell ⟨gb330, 0, none⟩ (.slice Ao105 x337000_2.length co105)).setCell ⟨gb330, 1, none⟩ (.string x337001_7)).setCell ⟨gb330, 2, none⟩ (.bool (decide (t335 < 0))))) ?hg ?ho ?hn ?hr ?_; (case ho => rfl); (case hg => rfl); (case hn => rfl); (case hr => first | (go_simp; done) | (go_simp; rfl)); intro w107 hw; have n0_ : Aside0 (Kd.Q Kd.string 9 w107 w.heap.size (fun _ => True) u4 x4_2) := ⟨(by rw [hw]; exact (by (with_reducible repeat (first | apply Kd.Q_alloc | apply Kd.Q_drewN | apply Kd.Q_drew)); exact Kd.Q_mono (Kd.Q_far (p := ⟨gb330, 2, none⟩) (Kd.Q_far (p := ⟨gb330, 1, none⟩) (Kd.Q_far (p := ⟨gb330, 0, none⟩) (Kd.Q_types HO_4.out BK330.out (by decide)) (fun _ hk => hk.2) (.slice Ao105 x337000_2.length co105)) (fun _ hk => hk.2) (.string x337001_7)) (fun _ hk => hk.2) (.bool (decide (t335 < 0)))) (fun _ hk => trivial)))⟩; have n1_ : Aside0 (Kd.R k72 72 w107 w.heap.size (fun _ => True) (.slice Ao105 x337000_2.length co105) x337000_2) := ⟨(by rw [hw]; exact (by (with_reducible repeat (first | apply Kd.R_alloc | apply Kd.R_drewN | apply Kd.R_drew)); exact Kd.R_mono (Kd.R_far (p := ⟨gb330, 2, none⟩) (Kd.R_far (p := ⟨gb330, 1, none⟩) (Kd.R_far (p := ⟨gb330, 0, none⟩) (Kd.R_types HO_337000.out BK330.out (by decide)) (fun _ hk => hk.2) (.slice Ao105 x337000_2.length co105)) (fun _ hk => hk.2) (.string x337001_7)) (fun _ hk => hk.2) (.bool (decide (t335 < 0)))) (fun _ hk => trivial)))⟩; have n2_ : Aside0 (w107.heap[gb330]? = some (.cells #[.slice Ao105 x337000_2.length co105, .string x337001_7, .bool (decide (t335 < 0))] 24 (0, 0))) := ⟨(by rw [hw]; exact (by (with_reducible repeat (first | refine blk_drewN ?_ _ | refine blk_drew ?_ | refine blk_alloc ?_ _)); refine blk_put (cs := #[.slice Ao105 x337000_2.length co105, .string x337001_7, .bool false]) ?_ 2 _ rfl; (with_reducible repeat (first | refine blk_drewN ?_ _ | refine blk_drew ?_ | refine blk_alloc ?_ _)); refine blk_put (cs := #[.slice Ao105 x337000_2.length co105, .string (⟨#[]⟩ : ByteArray), .bool false]) ?_ 1 _ rfl; (with_reducible repeat (first | refine blk_drewN ?_ _ | refine blk_drew ?_ | refine blk_alloc ?_ _)); refine blk_put (cs := #[.slice none 0 0, .string (⟨#[]⟩ : ByteArray), .bool false]) ?_ 0 _ rfl; (with_reducible repeat (first | refine blk_drewN ?_ _ | refine blk_drew ?_ | refine blk_alloc ?_ _)); exact BK330.out))⟩; have n3_ : Aside0 (w107.heap[gb336]? = some (.cells #[.slice Ao105 x337000_2.length co105, .string x337001_7, .bool (decide (t335 < 0))] 24 (0, 0))) := ⟨(by rw [hw]; exact (bk BK336.out))⟩; have n4_ : Aside0 (Below w.heap.size w w107) := ⟨(by rw [hw]; exact bl)⟩; clear hw HO_4; clear HO_337000 BK330; clear BK336 HB; have HO_4 := n0_; have HO_337000 := n1_; have BK330 := n2_; have BK336 := n3_; have HB := n4_; clear n0_ n1_ n2_ n3_ n4_))
          refine bodyPost_ret (results_ct rfl _ _ gb330 24 #[.slice Ao105 x337000_2.length co105, .string x337001_7, .bool (decide (t335 < 0))] (0, 0) _ rfl (bk BK330.out) Tryz.underlying24 rfl kf) rfl ?_
          exact ⟨_, by first | rfl | (simp [errW_none, errW_some] <;> rfl) | (simp [*, errW_none, errW_some] <;> rfl), kr HO_337000.out, bl⟩
         ·replace c102 := Bool.eq_false_iff.mpr c102
          subst c102
          replace H : (some (([] : List (S72)), (⟨#[]⟩ : ByteArray), false, 5)) = some (r1, r2, r3, r4) := by rw [if_neg (show ¬ (false = true) by decide)] at H; exact H
          simp only [Option.some.injEq, Prod.mk.injEq] at H
          obtain ⟨rfl, rfl, rfl, rfl⟩ := H
          have hnb108 := NB330_336.out
          have hnc108 := NB336_330.out
          have hcz109_0 := cz BK330.out 0 (.slice none 0 0)
          have hcz109_1 := cz BK330.out 1 (.string (⟨#[]⟩ : ByteArray))
          have hcz109_2 := cz BK330.out 2 (.bool false)
          have hfz109_0 := blk_frozen BK330.out 0
          have hfz109_1 := blk_frozen BK330.out 1
          have hfz109_2 := blk_frozen BK330.out 2
          go_wp2_with (first | ((with_reducible refine gate_store (t := 24) (p := 2) rfl ?_); refine store_event (t := 24) (p := 2) (v := ?vo_w110) (w1 := (((wc.setCell ⟨gb330, 0, none⟩ (.slice none 0 0)).setCell ⟨gb330, 1, none⟩ (.string (⟨#[]⟩ : ByteArray))).setCell ⟨gb330, 2, none⟩ (.bool false))) ?hg ?ho ?hn ?hr ?_; (case ho => rfl); (case hg => rfl); (case hn => rfl); (case hr => first | (go_simp; done) | (go_simp; rfl)); intro w110 hw; have n0_ : Aside0 (Kd.Q Kd.string 9 w110 w.heap.size (fun _ => True) u4 x4_2) := ⟨(by rw [hw]; exact (by (with_reducible repeat (first | apply Kd.Q_alloc | apply Kd.Q_drewN | apply Kd.Q_drew)); exact Kd.Q_mono (Kd.Q_far (p := ⟨gb330, 2, none⟩) (Kd.Q_far (p := ⟨gb330, 1, none⟩) (Kd.Q_far (p := ⟨gb330, 0, none⟩) (Kd.Q_types HO_4.out BK330.out (by decide)) (fun _ hk => hk.2) (.slice none 0 0)) (fun _ hk => hk.2) (.string (⟨#[]⟩ : ByteArray))) (fun _ hk => hk.2) (.bool false)) (fun _ hk => trivial)))⟩; have n1_ : Aside0 (Kd.R k72 72 w110 w.heap.size (fun _ => True) u337000 x337000_2) := ⟨(by rw [hw]; exact (by (with_reducible repeat (first | apply Kd.R_alloc | apply Kd.R_drewN | apply Kd.R_drew)); exact Kd.R_mono (Kd.R_far (p := ⟨gb330, 2, none⟩) (Kd.R_far (p := ⟨gb330, 1, none⟩) (Kd.R_far (p := ⟨gb330, 0, none⟩) (Kd.R_types HO_337000.out BK330.out (by decide)) (fun _ hk => hk.2) (.slice none 0 0)) (fun _ hk => hk.2) (.string (⟨#[]⟩ : ByteArray))) (fun _ hk => hk.2) (.bool false)) (fun _ hk => trivial)))⟩; have n2_ : Aside0 (w110.heap[gb330]? = some (.cells #[.slice none 0 0, .string (⟨#[]⟩ : ByteArray), .bool false] 24 (0, 0))) := ⟨(by rw [hw]; exact (by (with_reducible repeat (first | refine blk_drewN ?_ _ | refine blk_drew ?_ | refine blk_alloc ?_ _)); refine blk_put (cs := #[.slice none 0 0, .string (⟨#[]⟩ : ByteArray), .bool false]) ?_ 2 _ rfl; (with_reducible repeat (first | refine blk_drewN ?_ _ | refine blk_drew ?_ | refine blk_alloc ?_ _)); refine blk_put (cs := #[.slice none 0 0, .string (⟨#[]⟩ : ByteArray), .bool false]) ?_ 1 _ rfl; (with_reducible repeat (first | refine blk_drewN ?_ _ | refine blk_drew ?_ | refine blk_alloc ?_ _)); refine blk_put (cs := #[.slice none 0 0, .string (⟨#[]⟩ : ByteArray), .bool false]) ?_ 0 _ rfl; (with_reducible repeat (first | refine blk_drewN ?_ _ | refine blk_drew ?_ | refine blk_alloc ?_ _)); exact BK330.out))⟩; have n3_ : Aside0 (w110.heap[gb336]? = some (.cells #[u337000, .string x337001_7, .bool (decide (t335 < 0))] 24 (0, 0))) := ⟨(by rw [hw]; exact (bk BK336.out))⟩; have n4_ : Aside0 (Below w.heap.size w w110) := ⟨(by rw [hw]; exact bl)⟩; clear hw HO_4; clear HO_337000 BK330; clear BK336 HB; have HO_4 := n0_; have HO_337000 := n1_; have BK330 := n2_; have BK336 := n3_; have HB := n4_; clear n0_ n1_ n2_ n3_ n4_))
          refine bodyPost_ret (results_ct rfl _ _ gb330 24 #[.slice none 0 0, .string (⟨#[]⟩ : ByteArray), .bool false] (0, 0) _ rfl (bk BK330.out) Tryz.underlying24 rfl kf) rfl ?_
          exact ⟨_, by first | rfl | (simp [errW_none, errW_some] <;> rfl) | (simp [*, errW_none, errW_some] <;> rfl), by first | exact Kd.R_nil _ _ _ _ _ | exact Kd.N_nil _ _ _ _ _ | exact Kd.V_nil _ _ _ _ _ | exact Kd.Q_nil _ _ _ _ _ | exact Kd.S_nil _ _ _ _ _, bl⟩

end Go.Proofs.YtacjnapgdikhbaaGreatDoor.Q
end
