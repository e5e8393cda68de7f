/- Walks of functions. -/
import Derived.Test.YtgabcckljhnocaaDoorQx0
section
namespace Go.Proofs.YtgabcckljhnocaaDoor.Q
open Go.RowKit Go.Proofs.YtgabcckljhnocaaDoorW.PrintWords Go.Proofs.YtgabcckljhnocaaDoorW.PrintLast Go.Proofs.YtgabcckljhnocaaDoorW.PrintMore
attribute [local go_sem] max2_int min2_int max_two min_two max_three min_three max_four min_four   -- for this text's walks alone
set_option linter.unusedVariables false
set_option linter.unusedSimpArgs false

attribute [local go_sem high] eqA48
/-! ### lines_Parse: function 9 -/
def lines_Parse.l0 : Nat → Bool → List (S28) → List (S48) → List (S66) → Int → Int → Option ((List (S28)) × (List (S48)))
 | 0, _, _, _, _, _, _ => none
 | k + 1, x1, x6, x7, x21, x22, x23 => if x23 < x22 then (if 0 ≤ x23 then (if x23 < (x21.length : Int) then ((lines_said_entry.f k ((rd_T66 x21 x23).f0) ((rd_T66 x21 x23).f1) ((rd_T66 x21 x23).f2) x1).bind fun bt172 => ((strings_ToLower.f bt172.2.1).bind fun t179 => (if bt172.2.2.2 = 0 then (if (x6.length : Int) ≥ 64 then (if 7 = 0 then (if x6.length < 2932031007402 then (lines_Parse.l0 k x1 (x6 ++ [(⟨bt172.1, bt172.2.1, bt172.2.2.1⟩ : S28)]) x7 x21 x22 (wrap64 (x23 + 1))) else (none)) else (if x7.length < 8796093022208 then (lines_Parse.l0 k x1 x6 (x7 ++ [(⟨(rd_T66 x21 x23).f0, 7⟩ : S48)]) x21 x22 (wrap64 (x23 + 1))) else (none))) else ((lines_Parse_seen.f x6 t179).bind fun t186 => (if t186 > 0 then (if 9 = 0 then (if x6.length < 2932031007402 then (lines_Parse.l0 k x1 (x6 ++ [(⟨bt172.1, bt172.2.1, bt172.2.2.1⟩ : S28)]) x7 x21 x22 (wrap64 (x23 + 1))) else (none)) else (if x7.length < 8796093022208 then (lines_Parse.l0 k x1 x6 (x7 ++ [(⟨(rd_T66 x21 x23).f0, 9⟩ : S48)]) x21 x22 (wrap64 (x23 + 1))) else (none))) else (if x6.length < 2932031007402 then (lines_Parse.l0 k x1 (x6 ++ [(⟨bt172.1, bt172.2.1, bt172.2.2.1⟩ : S28)]) x7 x21 x22 (wrap64 (x23 + 1))) else (none))))) else (if x7.length < 8796093022208 then (lines_Parse.l0 k x1 x6 (x7 ++ [(⟨(rd_T66 x21 x23).f0, bt172.2.2.2⟩ : S48)]) x21 x22 (wrap64 (x23 + 1))) else (none))))) else (none)) else (none)) else (some (x6, x7))
def lines_Parse.f (k : Nat) (a0 : ByteArray) (a1 : Bool) : Option ((List (S28)) × (List (S48))) := if (a0.size : Int) > 8192 then (some (([] : List (S28)), (([(⟨0, 3⟩ : S48)] : List (S48))))) else ((lines_logical.f k a0).bind fun t167 => (lines_Parse.l0 k a1 ([] : List (S28)) ([] : List (S48)) t167 (t167.length : Int) 0))
theorem lines_Parse.mono_l : ∀ k, (∀ y0 y1 y2 y3 y4 y5, LeO (lines_Parse.l0 k y0 y1 y2 y3 y4 y5) (lines_Parse.l0 (k + 1) y0 y1 y2 y3 y4 y5))
 | 0 => fun _ _ _ _ _ _ r h => by simp [lines_Parse.l0] at h
 | k + 1 => by
  have ih0 := lines_Parse.mono_l k
  ·intro y0 y1 y2 y3 y4 y5
   unfold lines_Parse.l0
   repeat' first
   | (with_reducible exact ih0 _ _ _ _ _ _)
   | (with_reducible exact lines_logical.mono _ _)
   | (with_reducible exact lines_said_entry.mono _ _ _ _ _)
   | (with_reducible exact LeO.refl _)
   | (with_reducible exact LeO.none _)
   | (with_reducible refine LeO.ite ?_ ?_)
   | (with_reducible refine LeO.bind ?_ (fun _ => ?_))
   | exact ih0 _ _ _ _ _ _
   | exact lines_logical.mono _ _
   | exact lines_said_entry.mono _ _ _ _ _
   | exact LeO.none _
   | refine LeO.ite ?_ ?_
   | refine LeO.bind ?_ (fun _ => ?_)
theorem lines_Parse.mono : ∀ a0 a1 k, LeO (lines_Parse.f k a0 a1) (lines_Parse.f (k + 1) a0 a1) := by
 intro a0 a1 k
 have ih0 := lines_Parse.mono_l k
 unfold lines_Parse.f
 repeat' first
   | (with_reducible exact ih0 _ _ _ _ _ _)
   | (with_reducible exact lines_logical.mono _ _)
   | (with_reducible exact lines_said_entry.mono _ _ _ _ _)
   | (with_reducible exact LeO.refl _)
   | (with_reducible exact LeO.none _)
   | (with_reducible refine LeO.ite ?_ ?_)
   | (with_reducible refine LeO.bind ?_ (fun _ => ?_))
   | exact ih0 _ _ _ _ _ _
   | exact lines_logical.mono _ _
   | exact lines_said_entry.mono _ _ _ _ _
   | exact LeO.none _
   | refine LeO.ite ?_ ?_
   | refine LeO.bind ?_ (fun _ => ?_)
set_option maxHeartbeats 8000000 in
set_option maxRecDepth 100000 in
theorem lines_Parse.calls (k : Nat) (a0 : ByteArray) (a1 : Bool) (r1 : List (S28)) (r2 : List (S48)) (w : World) (hG : Glob w) (h : lines_Parse.f k a0 a1 = some (r1, r2)) :
  Calls Tryd.prog 9 #[.string a0, .bool a1] w fun e w' => ∃ v0_ v1_ : Value, e = .returned (.tuple #[v0_, v1_]) ∧ Kd.S k28 28 w' w.heap.size (fun _ => True) v0_ r1 ∧ Kd.R k48 48 w' w.heap.size (fun _ => True) v1_ r2 ∧ Below w.heap.size w w' := by
 have hu48 := Tryd.underlying48
 have hu66 := Tryd.underlying66
 have hu28 := Tryd.underlying28
 have HB := Aside0.mk (Below.refl w.heap.size w)
 have HG := Aside0.mk hG
 clear hG
 have H : (if (a0.size : Int) > 8192 then (some (([] : List (S28)), (([(⟨0, 3⟩ : S48)] : List (S48))))) else ((lines_logical.f k a0).bind fun t167 => (lines_Parse.l0 k a1 ([] : List (S28)) ([] : List (S48)) t167 (t167.length : Int) 0))) = some (r1, r2) := h
 clear h
 by_cases c3 : (a0.size : Int) > 8192
 ·rw [if_pos c3] at H
  have c3b0 : decide (8192 < (a0.size : Int)) = true := decide_eq_true c3
  have c3b1 : decide (8192 < a0.size) = true := decide_eq_true (by omega)
  clear c3
  obtain ⟨y164, hy164⟩ : ∃ y_ : List (S48), y_ = (([(⟨0, 3⟩ : S48)] : List (S48))) := ⟨_, rfl⟩
  replace H : (some (([] : List (S28)), y164)) = some (r1, r2) := by first | (rw [hy164]; with_reducible exact H) | (have H2_ := (Option.bind_some _ _).symm.trans H; rw [hy164]; with_reducible exact H2_) | (have H2_ := (Option.bind_some _ _).symm.trans H; with_reducible exact H2_) | with_reducible exact H | (rw [hy164]; exact H) | exact H
  have Ny164 := Aside0.mk hy164
  clear hy164
  simp only [Option.some.injEq, Prod.mk.injEq] at H
  obtain ⟨rfl, rfl⟩ := H
  go_enter Tryd.func9, Tryd.ntmps9
  go_wp2_with (first | ((with_reducible refine gate_dst (N := 18) rfl ?_); refine Kd.R_lit k48 _ 48 ?hg (N := 18) ?hd (xs := ([(⟨0, 3⟩ : S48)] : List (S48))) (inner := [.int .i64 0, .int .i64 3]) (ok := fun _ => True) (okp := fun _ => True) ?hr ?hp (fun _ hk => hk) trivial (Below.refl _ _) (Nat.le_refl _) (by simp) ?_; (case hd => rfl); (case hg => rfl); (case hr => first | (go_simp; done) | (go_simp; rfl)); (case hp => exact (Reps.c2 (show Kd.M k48 _ _ _ (⟨0, 3⟩ : S48) [.int .i64 0, .int .i64 3] from (k48_mkM _ _ _ (⟨0, 3⟩ : S48) )) (Reps.none _ _))); intro v165 w4 ho5 hb hg_ hnew_; clear hg_ hnew_; (first | rw [← Ny164.out] at ho5 | (simp only [Int.reduceToNat] at ho5; rw [← Ny164.out] at ho5)); have n0_ := Aside0.mk (Kd.R_lower ho5 (below_size bl)); have n1_ := Aside0.mk (below_step bl hb); clear HB; have HO166 := n0_; have HB := n1_; clear n0_ n1_; clear hb ho5))
  go_ret2
  exact ⟨_, _, by first | rfl | (simp [errW_none, errW_some] <;> rfl) | (simp [*, errW_none, errW_some] <;> rfl), by first | exact Kd.S_nil _ _ _ _ _ | exact Kd.N_nil _ _ _ _ _ | exact Kd.V_nil _ _ _ _ _ | exact Kd.Q_nil _ _ _ _ _ | exact Kd.R_nil _ _ _ _ _, by (with_reducible repeat (first | apply Kd.R_alloc | apply Kd.R_drewN | apply Kd.R_drew)); exact HO166.out, by repeat (first | (with_reducible first | exact HB.out | apply below_alloc | apply pw_below_drewN | apply below_drew1) | exact HB.out)⟩
 ·rw [if_neg c3] at H
  have c3b0 : decide (8192 < (a0.size : Int)) = false := decide_eq_false c3
  have c3b1 : decide (8192 < a0.size) = false := decide_eq_false (by omega)
  clear c3
  replace H := Option.bind_eq_some_iff.mp H
  obtain ⟨t167, A60, H⟩ := H
  replace H : (lines_Parse.l0 k a1 ([] : List (S28)) ([] : List (S48)) t167 (t167.length : Int) 0) = some (r1, r2) := H
  have A6 := Aside0.mk A60
  clear A60
  have H' := Aside0.mk H
  clear H
  have hmm := @run_makeMap Tryd.prog
  go_enter Tryd.func9, Tryd.ntmps9
  go_wp2_with (first | ((with_reducible refine gate_callee (f := 27) rfl ?_); refine goesL_ (some 21) rfl rfl Tryd.func27 (by kernel_rfl) rfl #[.string a0] rfl ml ?_; (with_reducible refine (lines_logical.calls k a0 t167 _ ?side1 A6.out).mono ?_); (case side1 => exact Glob.below HG.out bl); rintro e w7 ⟨v168, rfl, ho0, hb⟩; refine ⟨_, rfl, ?_⟩; have n0_ := Aside0.mk (Kd.R_lower ho0 (below_size bl)); have n1_ := Aside0.mk (below_step bl hb); have HM := Aside0.mk (MapK.below (mkk (MapK.made Tryd.prog 9 3 w)) hb); clear HB; have HO169 := n0_; have HB := n1_; clear n0_ n1_; (try clear hb); (try clear hb2); (try clear hk); (try clear hi); (try clear ho0); obtain ⟨Ao8, co8, eo8⟩ := Kd.R_slice HO169.out; subst eo8))
  go_loopg [6, 7, 23] k (fun kq v6 v7 v23 w' => ∃ (x6_1 : List (S28)) (x7_1 : List (S48)) (x23_1 : Int), v23 = .int .i64 x23_1 ∧ Aside0 (lines_Parse.l0 kq a1 x6_1 x7_1 t167 (t167.length : Int) x23_1 = some (r1, r2)) ∧ Aside0 (kq ≤ k) ∧ Aside0 (Kd.S k28 28 w' w.heap.size (fun _ => True) v6 x6_1) ∧ Aside0 (Kd.R k48 48 w' w.heap.size (fun _ => True) v7 x7_1) ∧ Aside0 (Kd.R k66 66 w' w.heap.size (fun _ => True) (.slice Ao8 t167.length co8) t167) ∧ Aside0 (Below w.heap.size w w') ∧ Aside0 (MapK Tryd.prog 9 3 w' w.heap.size (lines_Parse_keys x6_1)))
  case atStart => exact ⟨(([] : List (S28))), (([] : List (S48))), (0), (by first | rfl | (simp; done) | (simp [*]; done)), H', ⟨Nat.le_refl _⟩, ⟨by first | exact Kd.S_nil _ _ _ _ _ | exact Kd.N_nil _ _ _ _ _ | exact Kd.V_nil _ _ _ _ _ | exact Kd.Q_nil _ _ _ _ _ | exact Kd.R_nil _ _ _ _ _⟩, ⟨by first | exact Kd.R_nil _ _ _ _ _ | exact Kd.N_nil _ _ _ _ _ | exact Kd.V_nil _ _ _ _ _ | exact Kd.Q_nil _ _ _ _ _ | exact Kd.S_nil _ _ _ _ _⟩, ⟨by (with_reducible repeat (first | apply Kd.R_alloc | apply Kd.R_drewN | apply Kd.R_drew)); exact HO169.out⟩, ⟨by repeat (first | (with_reducible first | exact HB.out | apply below_alloc | apply pw_below_drewN | apply below_drew1) | exact HB.out)⟩, ⟨mkk HM.out⟩⟩
  case round =>
   clear H'
   try clear c2
   try clear p2
   try clear c3
   try clear c3b0
   try clear c3b1
   obtain ⟨x6_1, x7_1, x23_1, rfl, HA, HK1, HO_6, HO_7, HO_21, HB, HM⟩ := hrel
   cases gk with
   | zero => exact absurd HA.out (by simp [lines_Parse.l0])
   | succ k1 =>
    have H := HA.out
    clear HA
    simp only [lines_Parse.l0] at H
    by_cases c9 : x23_1 < (t167.length : Int)
    ·rw [if_pos c9] at H
     have c9b0 : decide (x23_1 < (t167.length : Int)) = true := decide_eq_true c9
     clear c9
     by_cases c10 : 0 ≤ x23_1
     ·rw [if_pos c10] at H
      have c10b0 : decide (0 ≤ x23_1) = true := decide_eq_true c10
      clear c10
      by_cases c11 : x23_1 < (t167.length : Int)
      ·rw [if_pos c11] at H
       have c11b0 : decide (x23_1 < (t167.length : Int)) = true := decide_eq_true c11
       clear c11
       replace H := Option.bind_eq_some_iff.mp H
       obtain ⟨⟨t172, t173, t174, t177⟩, A120, H⟩ := H
       replace H : ((strings_ToLower.f t173).bind fun t179 => (if t177 = 0 then (if (x6_1.length : Int) ≥ 64 then (if 7 = 0 then (if x6_1.length < 2932031007402 then (lines_Parse.l0 k1 a1 (x6_1 ++ [(⟨t172, t173, t174⟩ : S28)]) x7_1 t167 (t167.length : Int) (wrap64 (x23_1 + 1))) else (none)) else (if x7_1.length < 8796093022208 then (lines_Parse.l0 k1 a1 x6_1 (x7_1 ++ [(⟨(rd_T66 t167 x23_1).f0, 7⟩ : S48)]) t167 (t167.length : Int) (wrap64 (x23_1 + 1))) else (none))) else ((lines_Parse_seen.f x6_1 t179).bind fun t186 => (if t186 > 0 then (if 9 = 0 then (if x6_1.length < 2932031007402 then (lines_Parse.l0 k1 a1 (x6_1 ++ [(⟨t172, t173, t174⟩ : S28)]) x7_1 t167 (t167.length : Int) (wrap64 (x23_1 + 1))) else (none)) else (if x7_1.length < 8796093022208 then (lines_Parse.l0 k1 a1 x6_1 (x7_1 ++ [(⟨(rd_T66 t167 x23_1).f0, 9⟩ : S48)]) t167 (t167.length : Int) (wrap64 (x23_1 + 1))) else (none))) else (if x6_1.length < 2932031007402 then (lines_Parse.l0 k1 a1 (x6_1 ++ [(⟨t172, t173, t174⟩ : S28)]) x7_1 t167 (t167.length : Int) (wrap64 (x23_1 + 1))) else (none))))) else (if x7_1.length < 8796093022208 then (lines_Parse.l0 k1 a1 x6_1 (x7_1 ++ [(⟨(rd_T66 t167 x23_1).f0, t177⟩ : S48)]) t167 (t167.length : Int) (wrap64 (x23_1 + 1))) else (none)))) = some (r1, r2) := H
       have A12 := Aside0.mk A120
       clear A120
       replace H := Option.bind_eq_some_iff.mp H
       obtain ⟨t179, A130, H⟩ := H
       replace H : (if t177 = 0 then (if (x6_1.length : Int) ≥ 64 then (if 7 = 0 then (if x6_1.length < 2932031007402 then (lines_Parse.l0 k1 a1 (x6_1 ++ [(⟨t172, t173, t174⟩ : S28)]) x7_1 t167 (t167.length : Int) (wrap64 (x23_1 + 1))) else (none)) else (if x7_1.length < 8796093022208 then (lines_Parse.l0 k1 a1 x6_1 (x7_1 ++ [(⟨(rd_T66 t167 x23_1).f0, 7⟩ : S48)]) t167 (t167.length : Int) (wrap64 (x23_1 + 1))) else (none))) else ((lines_Parse_seen.f x6_1 t179).bind fun t186 => (if t186 > 0 then (if 9 = 0 then (if x6_1.length < 2932031007402 then (lines_Parse.l0 k1 a1 (x6_1 ++ [(⟨t172, t173, t174⟩ : S28)]) x7_1 t167 (t167.length : Int) (wrap64 (x23_1 + 1))) else (none)) else (if x7_1.length < 8796093022208 then (lines_Parse.l0 k1 a1 x6_1 (x7_1 ++ [(⟨(rd_T66 t167 x23_1).f0, 9⟩ : S48)]) t167 (t167.length : Int) (wrap64 (x23_1 + 1))) else (none))) else (if x6_1.length < 2932031007402 then (lines_Parse.l0 k1 a1 (x6_1 ++ [(⟨t172, t173, t174⟩ : S28)]) x7_1 t167 (t167.length : Int) (wrap64 (x23_1 + 1))) else (none))))) else (if x7_1.length < 8796093022208 then (lines_Parse.l0 k1 a1 x6_1 (x7_1 ++ [(⟨(rd_T66 t167 x23_1).f0, t177⟩ : S48)]) t167 (t167.length : Int) (wrap64 (x23_1 + 1))) else (none))) = some (r1, r2) := H
       have A13 := Aside0.mk A130
       clear A130
       by_cases c14 : t177 = 0
       ·rw [if_pos c14] at H
        have c14b0 : (t177 == 0) = true := beq_iff_eq.mpr c14
        have c14b1 : (t177 != 0) = false := bne_eq_false_iff_eq.mpr c14
        clear c14
        by_cases c15 : (x6_1.length : Int) ≥ 64
        ·rw [if_pos c15] at H
         have c15b0 : decide (64 ≤ (x6_1.length : Int)) = true := decide_eq_true c15
         have c15b1 : decide (64 ≤ x6_1.length) = true := decide_eq_true (by omega)
         clear c15
         by_cases c16 : 7 = 0
         ·exact absurd c16 (by decide)
         ·rw [if_neg c16] at H
          have c16b0 : (7 == 0) = false := beq_eq_false_iff_ne.mpr c16
          have c16b1 : (7 != 0) = true := bne_iff_ne.mpr c16
          by_cases c29 : x7_1.length < 8796093022208
          ·rw [if_pos c29] at H
           have LMc29 := Aside0.mk c29
           clear c29
           obtain ⟨y183, hy183⟩ : ∃ y_ : List (S48), y_ = (x7_1 ++ [(⟨(rd_T66 t167 x23_1).f0, 7⟩ : S48)]) := ⟨_, rfl⟩
           replace H : (lines_Parse.l0 k1 a1 x6_1 y183 t167 (t167.length : Int) (wrap64 (x23_1 + 1))) = some (r1, r2) := by first | (rw [hy183]; with_reducible exact H) | (have H2_ := (Option.bind_some _ _).symm.trans H; rw [hy183]; with_reducible exact H2_) | (have H2_ := (Option.bind_some _ _).symm.trans H; with_reducible exact H2_) | with_reducible exact H | (rw [hy183]; exact H) | exact H
           have Ny183 := Aside0.mk hy183
           clear hy183
           have H' := Aside0.mk H
           clear H
           have p170 : 0 ≤ (x23_1 : Int) := od
           have q170 : x23_1 < (t167.length : Int) := od
           obtain ⟨ad170, e170, hx170_0, hx170_1, hx170_2⟩ := at_T66 (Kd.R_reads' HO_21.out).2.2 x23_1 p170 q170
           cases e170
           replace p170 := eq_true p170
           replace q170 := eq_true q170
           go_wp2_with (first | ((with_reducible refine gate_dst (N := 10) rfl ?_); refine box_event ?hg (N := 10) ?hd (cs := #[.int .i64 0, .string (⟨#[]⟩ : ByteArray), .bool false]) (t := 66) ?hr ?_; (case hd => rfl); (case hg => rfl); (case hr => first | (go_simp; done) | (go_simp; rfl)); intro gb171 hg w30 hbox hb; have n0_ := Aside0.mk (Kd.S_below (by (with_reducible repeat (first | apply Kd.S_alloc | apply Kd.S_drewN | apply Kd.S_drew)); exact HO_6.out) hb); have n1_ := Aside0.mk (Kd.R_below (kr HO_7.out) hb); have n2_ := Aside0.mk (Kd.R_below (Kd.R_elderB (kr HO_21.out) gb171 (Nat.le_of_eq hg.symm)) hb); have n3_ := Aside0.mk (below_step bl hb); have n4_ := Aside0.mk (hbox); have n5_ := Aside0.mk ((by rw [hg]; exact (below_size bl) : w.heap.size ≤ gb171)); have n6_ := Aside0.mk ((by rw [hg]; exact (below_size bl) : w.heap.size ≤ gb171)); have m0_ := Aside0.mk (MapK.below (mkk HM.out) hb); clear HM; have HM := m0_; clear m0_; clear HO_6; clear HO_7; clear HO_21; clear HB; have HO_6 := n0_; have HO_7 := n1_; have HO_21 := n2_; have HB := n3_; have BK171 := n4_; have GW171 := n5_; have GE171 := n6_; clear n0_ n1_ n2_ n3_ n4_ n5_ n6_; clear hb hbox hg; have hcz31_0 : w30.cell? ⟨gb171, 0, none⟩ = some (.int .i64 0) := (blk_cell BK171.out 0).trans rfl; have hcz31_1 : w30.cell? ⟨gb171, 1, none⟩ = some (.string (⟨#[]⟩ : ByteArray)) := (blk_cell BK171.out 1).trans rfl; have hcz31_2 : w30.cell? ⟨gb171, 2, none⟩ = some (.bool false) := (blk_cell BK171.out 2).trans rfl; have hfz31_0 := blk_frozen BK171.out 0; have hfz31_1 := blk_frozen BK171.out 1; have hfz31_2 := blk_frozen BK171.out 2) | ((with_reducible refine gate_callee (f := 28) rfl ?_); refine goesL_ (some 30) rfl rfl Tryd.func28 (by kernel_rfl) rfl #[.agg #[.int .i64 ((rd_T66 t167 x23_1).f0), .string ((rd_T66 t167 x23_1).f1), .bool ((rd_T66 t167 x23_1).f2)], .bool a1] rfl ml ?_; (with_reducible refine (lines_said_entry.calls k1 ((rd_T66 t167 x23_1).f0) ((rd_T66 t167 x23_1).f1) ((rd_T66 t167 x23_1).f2) a1 t172 t173 t174 t177 _ ?side1 A12.out).mono ?_); (case side1 => exact Glob.below HG.out bl); rintro e w32 ⟨v175, rfl, ho0, hb⟩; refine ⟨_, rfl, ?_⟩; have n0_ := Aside0.mk (Kd.S_elder' (by (with_reducible repeat (first | apply Kd.S_alloc | apply Kd.S_drewN | apply Kd.S_drew)); exact (Kd.S_mono (Kd.S_far (p := ⟨gb171, 2, none⟩) (Kd.S_far (p := ⟨gb171, 1, none⟩) (Kd.S_far (p := ⟨gb171, 0, none⟩) (Kd.S_types HO_6.out BK171.out (by decide)) (fun _ hk => hk.2) (.int .i64 ((rd_T66 t167 x23_1).f0))) (fun _ hk => hk.2) (.string ((rd_T66 t167 x23_1).f1))) (fun _ hk => hk.2) (.bool ((rd_T66 t167 x23_1).f2))) (fun _ h_ => h_.1))) (Kd.R_base ho0) hb); have n1_ := Aside0.mk (Kd.R_below (by (with_reducible repeat (first | apply Kd.R_alloc | apply Kd.R_drewN | apply Kd.R_drew)); exact (Kd.R_mono (Kd.R_far (p := ⟨gb171, 2, none⟩) (Kd.R_far (p := ⟨gb171, 1, none⟩) (Kd.R_far (p := ⟨gb171, 0, none⟩) (Kd.R_types HO_7.out BK171.out (by decide)) (fun _ hk => hk.2) (.int .i64 ((rd_T66 t167 x23_1).f0))) (fun _ hk => hk.2) (.string ((rd_T66 t167 x23_1).f1))) (fun _ hk => hk.2) (.bool ((rd_T66 t167 x23_1).f2))) (fun _ h_ => h_.1))) hb); have n2_ := Aside0.mk (Kd.R_below (by (with_reducible repeat (first | apply Kd.R_alloc | apply Kd.R_drewN | apply Kd.R_drew)); exact (Kd.R_mono (Kd.R_far (p := ⟨gb171, 2, none⟩) (Kd.R_far (p := ⟨gb171, 1, none⟩) (Kd.R_far (p := ⟨gb171, 0, none⟩) (Kd.R_mono HO_21.out (fun k_ hk => (⟨hk, hk.2⟩ : _ ∧ k_ ≠ gb171))) (fun _ hk => hk.2) (.int .i64 ((rd_T66 t167 x23_1).f0))) (fun _ hk => hk.2) (.string ((rd_T66 t167 x23_1).f1))) (fun _ hk => hk.2) (.bool ((rd_T66 t167 x23_1).f2))) (fun _ h_ => h_.1))) hb); have n3_ := Aside0.mk (Kd.R_lower ho0 (below_size bl)); have n4_ := Aside0.mk (blk_below (g := gb171) (o := .cells #[.int .i64 ((rd_T66 t167 x23_1).f0), .string ((rd_T66 t167 x23_1).f1), .bool ((rd_T66 t167 x23_1).f2)] 66 (0, 0)) (by (with_reducible repeat (first | refine blk_drewN ?_ _ | refine blk_drew ?_ | refine blk_alloc ?_ _)); refine blk_put (cs := #[.int .i64 ((rd_T66 t167 x23_1).f0), .string ((rd_T66 t167 x23_1).f1), .bool false]) ?_ 2 _ rfl; (with_reducible repeat (first | refine blk_drewN ?_ _ | refine blk_drew ?_ | refine blk_alloc ?_ _)); refine blk_put (cs := #[.int .i64 ((rd_T66 t167 x23_1).f0), .string (⟨#[]⟩ : ByteArray), .bool false]) ?_ 1 _ rfl; (with_reducible repeat (first | refine blk_drewN ?_ _ | refine blk_drew ?_ | refine blk_alloc ?_ _)); refine blk_put (cs := #[.int .i64 0, .string (⟨#[]⟩ : ByteArray), .bool false]) ?_ 0 _ rfl; (with_reducible repeat (first | refine blk_drewN ?_ _ | refine blk_drew ?_ | refine blk_alloc ?_ _)); exact BK171.out) hb); have n5_ := Aside0.mk (below_step bl hb); have m0_ := Aside0.mk (MapK.below (mkk HM.out) hb); clear HM; have HM := m0_; clear m0_; clear HO_6; clear HO_7; clear HO_21; clear BK171; clear HB; have HO_6 := n0_; have HO_7 := n1_; have HO_21 := n2_; have HO176 := n3_; have BK171 := n4_; have HB := n5_; clear n0_ n1_ n2_ n3_ n4_ n5_; (try clear hb); (try clear hb2); (try clear hk); (try clear hi); (try clear ho0)) | ((with_reducible refine gate_dst (N := 11) rfl ?_); refine box_event ?hg (N := 11) ?hd (cs := #[.int .i64 0, .string (⟨#[]⟩ : ByteArray), .slice none 0 0]) (t := 28) ?hr ?_; (case hd => rfl); (case hg => rfl); (case hr => first | (go_simp; done) | (go_simp; rfl)); intro gb178 hg w33 hbox hb; have n0_ := Aside0.mk (Kd.S_below (Kd.S_elderB (by (with_reducible repeat (first | apply Kd.S_alloc | apply Kd.S_drewN | apply Kd.S_drew)); exact HO_6.out) gb178 (Nat.le_of_eq hg.symm)) hb); have n1_ := Aside0.mk (Kd.R_below (kr HO_7.out) hb); have n2_ := Aside0.mk (Kd.R_below (kr HO_21.out) hb); have n3_ := Aside0.mk (Kd.R_below (kr HO176.out) hb); have n4_ := Aside0.mk (kb BK171.out hb); have n5_ := Aside0.mk (below_step bl hb); have n6_ := Aside0.mk (hbox); have n7_ := Aside0.mk ((by rw [hg]; exact (below_size bl) : w.heap.size ≤ gb178)); have n8_ := Aside0.mk ((by rw [hg]; exact (below_size bl) : w.heap.size ≤ gb178)); have n9_ := Aside0.mk ((by rw [hg]; exact Nat.ne_of_lt (blk_lt (bk BK171.out)) : gb171 ≠ gb178)); have n10_ := Aside0.mk ((by rw [hg]; exact Nat.ne_of_gt (blk_lt (bk BK171.out)) : gb178 ≠ gb171)); have m0_ := Aside0.mk (MapK.below (mkk HM.out) hb); clear HM; have HM := m0_; clear m0_; clear HO_6; clear HO_7; clear HO_21; clear HO176; clear BK171; clear HB; have HO_6 := n0_; have HO_7 := n1_; have HO_21 := n2_; have HO176 := n3_; have BK171 := n4_; have HB := n5_; have BK178 := n6_; have GW178 := n7_; have GE178 := n8_; have NB171_178 := n9_; have NB178_171 := n10_; clear n0_ n1_ n2_ n3_ n4_ n5_ n6_ n7_ n8_ n9_ n10_; clear hb hbox hg; have hnb34 := NB178_171.out; have hnc34 := NB171_178.out; have hcz35_0 : w33.cell? ⟨gb178, 0, none⟩ = some (.int .i64 0) := (blk_cell BK178.out 0).trans rfl; have hcz35_1 : w33.cell? ⟨gb178, 1, none⟩ = some (.string (⟨#[]⟩ : ByteArray)) := (blk_cell BK178.out 1).trans rfl; have hcz35_2 : w33.cell? ⟨gb178, 2, none⟩ = some (.slice none 0 0) := (blk_cell BK178.out 2).trans rfl; have hfz35_0 := blk_frozen BK178.out 0; have hfz35_1 := blk_frozen BK178.out 1; have hfz35_2 := blk_frozen BK178.out 2; obtain ⟨Ao36, co36, eo36⟩ := Kd.R_slice HO176.out; subst eo36) | ((with_reducible refine gate_callee (f := 8) rfl ?_); refine goesL_ (some 35) rfl rfl Tryd.func8 (by kernel_rfl) rfl #[.string t173] rfl ml ?_; (with_reducible refine (strings_ToLower.calls t173 t179 _ A13.out).mono ?_); rintro e w37 ⟨rfl, hb⟩; refine ⟨_, rfl, ?_⟩; have n0_ := Aside0.mk (Kd.S_below (by (with_reducible repeat (first | apply Kd.S_alloc | apply Kd.S_drewN | apply Kd.S_drew)); exact (Kd.S_mono (Kd.S_far (p := ⟨gb178, 2, none⟩) (Kd.S_far (p := ⟨gb178, 1, none⟩) (Kd.S_far (p := ⟨gb178, 0, none⟩) (Kd.S_mono HO_6.out (fun k_ hk => (⟨hk, hk.2⟩ : _ ∧ k_ ≠ gb178))) (fun _ hk => hk.2) (.int .i64 t172)) (fun _ hk => hk.2) (.string t173)) (fun _ hk => hk.2) (.slice Ao36 t174.length co36)) (fun _ h_ => h_.1))) hb); have n1_ := Aside0.mk (Kd.R_below (by (with_reducible repeat (first | apply Kd.R_alloc | apply Kd.R_drewN | apply Kd.R_drew)); exact (Kd.R_mono (Kd.R_far (p := ⟨gb178, 2, none⟩) (Kd.R_far (p := ⟨gb178, 1, none⟩) (Kd.R_far (p := ⟨gb178, 0, none⟩) (Kd.R_types HO_7.out BK178.out (by decide)) (fun _ hk => hk.2) (.int .i64 t172)) (fun _ hk => hk.2) (.string t173)) (fun _ hk => hk.2) (.slice Ao36 t174.length co36)) (fun _ h_ => h_.1))) hb); have n2_ := Aside0.mk (Kd.R_below (by (with_reducible repeat (first | apply Kd.R_alloc | apply Kd.R_drewN | apply Kd.R_drew)); exact (Kd.R_mono (Kd.R_far (p := ⟨gb178, 2, none⟩) (Kd.R_far (p := ⟨gb178, 1, none⟩) (Kd.R_far (p := ⟨gb178, 0, none⟩) (Kd.R_types HO_21.out BK178.out (by decide)) (fun _ hk => hk.2) (.int .i64 t172)) (fun _ hk => hk.2) (.string t173)) (fun _ hk => hk.2) (.slice Ao36 t174.length co36)) (fun _ h_ => h_.1))) hb); have n3_ := Aside0.mk (Kd.R_below (by (with_reducible repeat (first | apply Kd.R_alloc | apply Kd.R_drewN | apply Kd.R_drew)); exact (Kd.R_mono (Kd.R_far (p := ⟨gb178, 2, none⟩) (Kd.R_far (p := ⟨gb178, 1, none⟩) (Kd.R_far (p := ⟨gb178, 0, none⟩) (Kd.R_types HO176.out BK178.out (by decide)) (fun _ hk => hk.2) (.int .i64 t172)) (fun _ hk => hk.2) (.string t173)) (fun _ hk => hk.2) (.slice Ao36 t174.length co36)) (fun _ h_ => h_.1))) hb); have n4_ := Aside0.mk (kb BK171.out hb); have n5_ := Aside0.mk (blk_below (g := gb178) (o := .cells #[.int .i64 t172, .string t173, .slice Ao36 t174.length co36] 28 (0, 0)) (by (with_reducible repeat (first | refine blk_drewN ?_ _ | refine blk_drew ?_ | refine blk_alloc ?_ _)); refine blk_put (cs := #[.int .i64 t172, .string t173, .slice none 0 0]) ?_ 2 _ rfl; (with_reducible repeat (first | refine blk_drewN ?_ _ | refine blk_drew ?_ | refine blk_alloc ?_ _)); refine blk_put (cs := #[.int .i64 t172, .string (⟨#[]⟩ : ByteArray), .slice none 0 0]) ?_ 1 _ rfl; (with_reducible repeat (first | refine blk_drewN ?_ _ | refine blk_drew ?_ | refine blk_alloc ?_ _)); refine blk_put (cs := #[.int .i64 0, .string (⟨#[]⟩ : ByteArray), .slice none 0 0]) ?_ 0 _ rfl; (with_reducible repeat (first | refine blk_drewN ?_ _ | refine blk_drew ?_ | refine blk_alloc ?_ _)); exact BK178.out) hb); have n6_ := Aside0.mk (below_step bl hb); have m0_ := Aside0.mk (MapK.below (mkk HM.out) hb); clear HM; have HM := m0_; clear m0_; clear HO_6; clear HO_7; clear HO_21; clear HO176; clear BK171; clear BK178; clear HB; have HO_6 := n0_; have HO_7 := n1_; have HO_21 := n2_; have HO176 := n3_; have BK171 := n4_; have BK178 := n5_; have HB := n6_; clear n0_ n1_ n2_ n3_ n4_ n5_ n6_; (try clear hb); (try clear hb2); (try clear hk); (try clear hi); obtain ⟨Ao38, co38, eo38⟩ := Kd.S_slice HO_6.out; subst eo38; have hcz39_0 : w37.cell? ⟨gb171, 0, none⟩ = some (.int .i64 ((rd_T66 t167 x23_1).f0)) := (blk_cell BK171.out 0).trans rfl; have hcz39_1 : w37.cell? ⟨gb171, 1, none⟩ = some (.string ((rd_T66 t167 x23_1).f1)) := (blk_cell BK171.out 1).trans rfl; have hcz39_2 : w37.cell? ⟨gb171, 2, none⟩ = some (.bool ((rd_T66 t167 x23_1).f2)) := (blk_cell BK171.out 2).trans rfl; have hfz39_0 := blk_frozen BK171.out 0; have hfz39_1 := blk_frozen BK171.out 1; have hfz39_2 := blk_frozen BK171.out 2) | ((with_reducible refine gate_builtin (b := .append) (xs := #[.tmp 50, .tmp 55]) rfl ?_); at_builtin; refine Kd.R_append k48 (w0 := w) w.heap.size rfl (.tmp 50) (.tmp 55) 30 48 (.agg #[(.int .i64 0), (.int .i64 0)]) 16 rfl Tryd.underlying30 info48 rfl (by decide) (by omega) u7 x7_1 (⟨(rd_T66 t167 x23_1).f0, 7⟩ : S48) [.int .i64 ((rd_T66 t167 x23_1).f0), .int .i64 7] (fun _ => True) (fun _ => False) rfl rfl ?aP (fun _ hk => hk.elim) ?aF ?aO ?aB ?aS ?aL ?_; (case aP => exact k48_mkM _ _ _ (⟨(rd_T66 t167 x23_1).f0, 7⟩ : S48)); (case aB => exact bl); (case aF => exact (fun _ _ => trivial)); (case aO => exact (kr HO_7.out)); (case aS => exact (below_size bl)); (case aL => have := LMc29.out; omega); intro v184 w40 ho hb hg hat; rw [← Ny183.out] at ho; have n0_ := Aside0.mk (Kd.S_over' (by (with_reducible repeat (first | apply Kd.S_alloc | apply Kd.S_drewN | apply Kd.S_drew)); exact HO_6.out) (Kd.R_typed (kr HO_7.out)) (by decide) hg); have n1_ := Aside0.mk (Kd.R_over' (kr HO_21.out) (Kd.R_typed (kr HO_7.out)) (by decide) hg); have n2_ := Aside0.mk (blk_grown (g := gb171) (o := .cells #[.int .i64 ((rd_T66 t167 x23_1).f0), .string ((rd_T66 t167 x23_1).f1), .bool ((rd_T66 t167 x23_1).f2)] 66 (0, 0)) (bk BK171.out) hg (Kd.R_ne HO_7.out BK171.out (by decide))); have n3_ := Aside0.mk (Kd.R_over' (kr HO176.out) (Kd.R_typed (kr HO_7.out)) (by decide) hg); have n4_ := Aside0.mk (blk_grown (g := gb178) (o := .cells #[.int .i64 t172, .string t173, .slice Ao36 t174.length co36] 28 (0, 0)) (bk BK178.out) hg (Kd.R_ne HO_7.out BK178.out (by decide))); have n5_ := Aside0.mk (hb); have n6_ := Aside0.mk (ho); have m0_ := Aside0.mk (MapK.grown (mkk HM.out) hg (Kd.R_typed (kr HO_7.out))); clear HM; have HM := m0_; clear m0_; clear HO_6; clear HO_21; clear BK171; clear HO176; clear BK178; clear HB; clear HO_7; have HO_6 := n0_; have HO_21 := n1_; have BK171 := n2_; have HO176 := n3_; have BK178 := n4_; have HB := n5_; have HO185 := n6_; clear n0_ n1_ n2_ n3_ n4_ n5_ n6_; clear ho hb hg hat))
           go_roundg k1
           case measure => have := HK1.out; omega
           case rel => exact ⟨(x6_1), (y183), (wrap64 (x23_1 + 1)), (by first | rfl | (simp; done) | (simp [*]; done)), H', ⟨by have := HK1.out; omega⟩, ⟨by (with_reducible repeat (first | apply Kd.S_alloc | apply Kd.S_drewN | apply Kd.S_drew)); exact Kd.S_mono HO_6.out (fun _ hk => trivial)⟩, ⟨by (with_reducible repeat (first | apply Kd.R_alloc | apply Kd.R_drewN | apply Kd.R_drew)); exact HO185.out⟩, ⟨by (with_reducible repeat (first | apply Kd.R_alloc | apply Kd.R_drewN | apply Kd.R_drew)); exact Kd.R_mono HO_21.out (fun _ hk => trivial)⟩, ⟨by repeat (first | (with_reducible first | exact HB.out | apply below_alloc | apply pw_below_drewN | apply below_drew1 | refine below_set ?_ GE171.out | refine below_set ?_ GE178.out) | exact HB.out)⟩, ⟨mkk HM.out⟩⟩
          ·rw [if_neg c29] at H
           exact absurd H (by simp)
        ·rw [if_neg c15] at H
         have c15b0 : decide (64 ≤ (x6_1.length : Int)) = false := decide_eq_false c15
         have c15b1 : decide (64 ≤ x6_1.length) = false := decide_eq_false (by omega)
         clear c15
         replace H := Option.bind_eq_some_iff.mp H
         obtain ⟨t186, A410, H⟩ := H
         replace H : (if t186 > 0 then (if 9 = 0 then (if x6_1.length < 2932031007402 then (lines_Parse.l0 k1 a1 (x6_1 ++ [(⟨t172, t173, t174⟩ : S28)]) x7_1 t167 (t167.length : Int) (wrap64 (x23_1 + 1))) else (none)) else (if x7_1.length < 8796093022208 then (lines_Parse.l0 k1 a1 x6_1 (x7_1 ++ [(⟨(rd_T66 t167 x23_1).f0, 9⟩ : S48)]) t167 (t167.length : Int) (wrap64 (x23_1 + 1))) else (none))) else (if x6_1.length < 2932031007402 then (lines_Parse.l0 k1 a1 (x6_1 ++ [(⟨t172, t173, t174⟩ : S28)]) x7_1 t167 (t167.length : Int) (wrap64 (x23_1 + 1))) else (none))) = some (r1, r2) := H
         have A41 := Aside0.mk A410
         clear A410
         by_cases c42 : t186 > 0
         ·rw [if_pos c42] at H
          have c42b0 : decide (0 < t186) = true := decide_eq_true c42
          clear c42
          by_cases c43 : 9 = 0
          ·exact absurd c43 (by decide)
          ·rw [if_neg c43] at H
           have c43b0 : (9 == 0) = false := beq_eq_false_iff_ne.mpr c43
           have c43b1 : (9 != 0) = true := bne_iff_ne.mpr c43
           by_cases c56 : x7_1.length < 8796093022208
           ·rw [if_pos c56] at H
            have LMc56 := Aside0.mk c56
            clear c56
            obtain ⟨y190, hy190⟩ : ∃ y_ : List (S48), y_ = (x7_1 ++ [(⟨(rd_T66 t167 x23_1).f0, 9⟩ : S48)]) := ⟨_, rfl⟩
            replace H : (lines_Parse.l0 k1 a1 x6_1 y190 t167 (t167.length : Int) (wrap64 (x23_1 + 1))) = some (r1, r2) := by first | (rw [hy190]; with_reducible exact H) | (have H2_ := (Option.bind_some _ _).symm.trans H; rw [hy190]; with_reducible exact H2_) | (have H2_ := (Option.bind_some _ _).symm.trans H; with_reducible exact H2_) | with_reducible exact H | (rw [hy190]; exact H) | exact H
            have Ny190 := Aside0.mk hy190
            clear hy190
            have H' := Aside0.mk H
            clear H
            have p170 : 0 ≤ (x23_1 : Int) := od
            have q170 : x23_1 < (t167.length : Int) := od
            obtain ⟨ad170, e170, hx170_0, hx170_1, hx170_2⟩ := at_T66 (Kd.R_reads' HO_21.out).2.2 x23_1 p170 q170
            cases e170
            replace p170 := eq_true p170
            replace q170 := eq_true q170
            go_wp2_with (first | ((with_reducible refine gate_dst (N := 10) rfl ?_); refine box_event ?hg (N := 10) ?hd (cs := #[.int .i64 0, .string (⟨#[]⟩ : ByteArray), .bool false]) (t := 66) ?hr ?_; (case hd => rfl); (case hg => rfl); (case hr => first | (go_simp; done) | (go_simp; rfl)); intro gb171 hg w57 hbox hb; have n0_ := Aside0.mk (Kd.S_below (by (with_reducible repeat (first | apply Kd.S_alloc | apply Kd.S_drewN | apply Kd.S_drew)); exact HO_6.out) hb); have n1_ := Aside0.mk (Kd.R_below (kr HO_7.out) hb); have n2_ := Aside0.mk (Kd.R_below (Kd.R_elderB (kr HO_21.out) gb171 (Nat.le_of_eq hg.symm)) hb); have n3_ := Aside0.mk (below_step bl hb); have n4_ := Aside0.mk (hbox); have n5_ := Aside0.mk ((by rw [hg]; exact (below_size bl) : w.heap.size ≤ gb171)); have n6_ := Aside0.mk ((by rw [hg]; exact (below_size bl) : w.heap.size ≤ gb171)); have m0_ := Aside0.mk (MapK.below (mkk HM.out) hb); clear HM; have HM := m0_; clear m0_; clear HO_6; clear HO_7; clear HO_21; clear HB; have HO_6 := n0_; have HO_7 := n1_; have HO_21 := n2_; have HB := n3_; have BK171 := n4_; have GW171 := n5_; have GE171 := n6_; clear n0_ n1_ n2_ n3_ n4_ n5_ n6_; clear hb hbox hg; have hcz58_0 : w57.cell? ⟨gb171, 0, none⟩ = some (.int .i64 0) := (blk_cell BK171.out 0).trans rfl; have hcz58_1 : w57.cell? ⟨gb171, 1, none⟩ = some (.string (⟨#[]⟩ : ByteArray)) := (blk_cell BK171.out 1).trans rfl; have hcz58_2 : w57.cell? ⟨gb171, 2, none⟩ = some (.bool false) := (blk_cell BK171.out 2).trans rfl; have hfz58_0 := blk_frozen BK171.out 0; have hfz58_1 := blk_frozen BK171.out 1; have hfz58_2 := blk_frozen BK171.out 2) | ((with_reducible refine gate_callee (f := 28) rfl ?_); refine goesL_ (some 30) rfl rfl Tryd.func28 (by kernel_rfl) rfl #[.agg #[.int .i64 ((rd_T66 t167 x23_1).f0), .string ((rd_T66 t167 x23_1).f1), .bool ((rd_T66 t167 x23_1).f2)], .bool a1] rfl ml ?_; (with_reducible refine (lines_said_entry.calls k1 ((rd_T66 t167 x23_1).f0) ((rd_T66 t167 x23_1).f1) ((rd_T66 t167 x23_1).f2) a1 t172 t173 t174 t177 _ ?side1 A12.out).mono ?_); (case side1 => exact Glob.below HG.out bl); rintro e w59 ⟨v175, rfl, ho0, hb⟩; refine ⟨_, rfl, ?_⟩; have n0_ := Aside0.mk (Kd.S_elder' (by (with_reducible repeat (first | apply Kd.S_alloc | apply Kd.S_drewN | apply Kd.S_drew)); exact (Kd.S_mono (Kd.S_far (p := ⟨gb171, 2, none⟩) (Kd.S_far (p := ⟨gb171, 1, none⟩) (Kd.S_far (p := ⟨gb171, 0, none⟩) (Kd.S_types HO_6.out BK171.out (by decide)) (fun _ hk => hk.2) (.int .i64 ((rd_T66 t167 x23_1).f0))) (fun _ hk => hk.2) (.string ((rd_T66 t167 x23_1).f1))) (fun _ hk => hk.2) (.bool ((rd_T66 t167 x23_1).f2))) (fun _ h_ => h_.1))) (Kd.R_base ho0) hb); have n1_ := Aside0.mk (Kd.R_below (by (with_reducible repeat (first | apply Kd.R_alloc | apply Kd.R_drewN | apply Kd.R_drew)); exact (Kd.R_mono (Kd.R_far (p := ⟨gb171, 2, none⟩) (Kd.R_far (p := ⟨gb171, 1, none⟩) (Kd.R_far (p := ⟨gb171, 0, none⟩) (Kd.R_types HO_7.out BK171.out (by decide)) (fun _ hk => hk.2) (.int .i64 ((rd_T66 t167 x23_1).f0))) (fun _ hk => hk.2) (.string ((rd_T66 t167 x23_1).f1))) (fun _ hk => hk.2) (.bool ((rd_T66 t167 x23_1).f2))) (fun _ h_ => h_.1))) hb); have n2_ := Aside0.mk (Kd.R_below (by (with_reducible repeat (first | apply Kd.R_alloc | apply Kd.R_drewN | apply Kd.R_drew)); exact (Kd.R_mono (Kd.R_far (p := ⟨gb171, 2, none⟩) (Kd.R_far (p := ⟨gb171, 1, none⟩) (Kd.R_far (p := ⟨gb171, 0, none⟩) (Kd.R_mono HO_21.out (fun k_ hk => (⟨hk, hk.2⟩ : _ ∧ k_ ≠ gb171))) (fun _ hk => hk.2) (.int .i64 ((rd_T66 t167 x23_1).f0))) (fun _ hk => hk.2) (.string ((rd_T66 t167 x23_1).f1))) (fun _ hk => hk.2) (.bool ((rd_T66 t167 x23_1).f2))) (fun _ h_ => h_.1))) hb); have n3_ := Aside0.mk (Kd.R_lower ho0 (below_size bl)); have n4_ := Aside0.mk (blk_below (g := gb171) (o := .cells #[.int .i64 ((rd_T66 t167 x23_1).f0), .string ((rd_T66 t167 x23_1).f1), .bool ((rd_T66 t167 x23_1).f2)] 66 (0, 0)) (by (with_reducible repeat (first | refine blk_drewN ?_ _ | refine blk_drew ?_ | refine blk_alloc ?_ _)); refine blk_put (cs := #[.int .i64 ((rd_T66 t167 x23_1).f0), .string ((rd_T66 t167 x23_1).f1), .bool false]) ?_ 2 _ rfl; (with_reducible repeat (first | refine blk_drewN ?_ _ | refine blk_drew ?_ | refine blk_alloc ?_ _)); refine blk_put (cs := #[.int .i64 ((rd_T66 t167 x23_1).f0), .string (⟨#[]⟩ : ByteArray), .bool false]) ?_ 1 _ rfl; (with_reducible repeat (first | refine blk_drewN ?_ _ | refine blk_drew ?_ | refine blk_alloc ?_ _)); refine blk_put (cs := #[.int .i64 0, .string (⟨#[]⟩ : ByteArray), .bool false]) ?_ 0 _ rfl; (with_reducible repeat (first | refine blk_drewN ?_ _ | refine blk_drew ?_ | refine blk_alloc ?_ _)); exact BK171.out) hb); have n5_ := Aside0.mk (below_step bl hb); have m0_ := Aside0.mk (MapK.below (mkk HM.out) hb); clear HM; have HM := m0_; clear m0_; clear HO_6; clear HO_7; clear HO_21; clear BK171; clear HB; have HO_6 := n0_; have HO_7 := n1_; have HO_21 := n2_; have HO176 := n3_; have BK171 := n4_; have HB := n5_; clear n0_ n1_ n2_ n3_ n4_ n5_; (try clear hb); (try clear hb2); (try clear hk); (try clear hi); (try clear ho0)) | ((with_reducible refine gate_dst (N := 11) rfl ?_); refine box_event ?hg (N := 11) ?hd (cs := #[.int .i64 0, .string (⟨#[]⟩ : ByteArray), .slice none 0 0]) (t := 28) ?hr ?_; (case hd => rfl); (case hg => rfl); (case hr => first | (go_simp; done) | (go_simp; rfl)); intro gb178 hg w60 hbox hb; have n0_ := Aside0.mk (Kd.S_below (Kd.S_elderB (by (with_reducible repeat (first | apply Kd.S_alloc | apply Kd.S_drewN | apply Kd.S_drew)); exact HO_6.out) gb178 (Nat.le_of_eq hg.symm)) hb); have n1_ := Aside0.mk (Kd.R_below (kr HO_7.out) hb); have n2_ := Aside0.mk (Kd.R_below (kr HO_21.out) hb); have n3_ := Aside0.mk (Kd.R_below (kr HO176.out) hb); have n4_ := Aside0.mk (kb BK171.out hb); have n5_ := Aside0.mk (below_step bl hb); have n6_ := Aside0.mk (hbox); have n7_ := Aside0.mk ((by rw [hg]; exact (below_size bl) : w.heap.size ≤ gb178)); have n8_ := Aside0.mk ((by rw [hg]; exact (below_size bl) : w.heap.size ≤ gb178)); have n9_ := Aside0.mk ((by rw [hg]; exact Nat.ne_of_lt (blk_lt (bk BK171.out)) : gb171 ≠ gb178)); have n10_ := Aside0.mk ((by rw [hg]; exact Nat.ne_of_gt (blk_lt (bk BK171.out)) : gb178 ≠ gb171)); have m0_ := Aside0.mk (MapK.below (mkk HM.out) hb); clear HM; have HM := m0_; clear m0_; clear HO_6; clear HO_7; clear HO_21; clear HO176; clear BK171; clear HB; have HO_6 := n0_; have HO_7 := n1_; have HO_21 := n2_; have HO176 := n3_; have BK171 := n4_; have HB := n5_; have BK178 := n6_; have GW178 := n7_; have GE178 := n8_; have NB171_178 := n9_; have NB178_171 := n10_; clear n0_ n1_ n2_ n3_ n4_ n5_ n6_ n7_ n8_ n9_ n10_; clear hb hbox hg; have hnb61 := NB178_171.out; have hnc61 := NB171_178.out; have hcz62_0 : w60.cell? ⟨gb178, 0, none⟩ = some (.int .i64 0) := (blk_cell BK178.out 0).trans rfl; have hcz62_1 : w60.cell? ⟨gb178, 1, none⟩ = some (.string (⟨#[]⟩ : ByteArray)) := (blk_cell BK178.out 1).trans rfl; have hcz62_2 : w60.cell? ⟨gb178, 2, none⟩ = some (.slice none 0 0) := (blk_cell BK178.out 2).trans rfl; have hfz62_0 := blk_frozen BK178.out 0; have hfz62_1 := blk_frozen BK178.out 1; have hfz62_2 := blk_frozen BK178.out 2; obtain ⟨Ao63, co63, eo63⟩ := Kd.R_slice HO176.out; subst eo63) | ((with_reducible refine gate_callee (f := 8) rfl ?_); refine goesL_ (some 35) rfl rfl Tryd.func8 (by kernel_rfl) rfl #[.string t173] rfl ml ?_; (with_reducible refine (strings_ToLower.calls t173 t179 _ A13.out).mono ?_); rintro e w64 ⟨rfl, hb⟩; refine ⟨_, rfl, ?_⟩; have n0_ := Aside0.mk (Kd.S_below (by (with_reducible repeat (first | apply Kd.S_alloc | apply Kd.S_drewN | apply Kd.S_drew)); exact (Kd.S_mono (Kd.S_far (p := ⟨gb178, 2, none⟩) (Kd.S_far (p := ⟨gb178, 1, none⟩) (Kd.S_far (p := ⟨gb178, 0, none⟩) (Kd.S_mono HO_6.out (fun k_ hk => (⟨hk, hk.2⟩ : _ ∧ k_ ≠ gb178))) (fun _ hk => hk.2) (.int .i64 t172)) (fun _ hk => hk.2) (.string t173)) (fun _ hk => hk.2) (.slice Ao63 t174.length co63)) (fun _ h_ => h_.1))) hb); have n1_ := Aside0.mk (Kd.R_below (by (with_reducible repeat (first | apply Kd.R_alloc | apply Kd.R_drewN | apply Kd.R_drew)); exact (Kd.R_mono (Kd.R_far (p := ⟨gb178, 2, none⟩) (Kd.R_far (p := ⟨gb178, 1, none⟩) (Kd.R_far (p := ⟨gb178, 0, none⟩) (Kd.R_types HO_7.out BK178.out (by decide)) (fun _ hk => hk.2) (.int .i64 t172)) (fun _ hk => hk.2) (.string t173)) (fun _ hk => hk.2) (.slice Ao63 t174.length co63)) (fun _ h_ => h_.1))) hb); have n2_ := Aside0.mk (Kd.R_below (by (with_reducible repeat (first | apply Kd.R_alloc | apply Kd.R_drewN | apply Kd.R_drew)); exact (Kd.R_mono (Kd.R_far (p := ⟨gb178, 2, none⟩) (Kd.R_far (p := ⟨gb178, 1, none⟩) (Kd.R_far (p := ⟨gb178, 0, none⟩) (Kd.R_types HO_21.out BK178.out (by decide)) (fun _ hk => hk.2) (.int .i64 t172)) (fun _ hk => hk.2) (.string t173)) (fun _ hk => hk.2) (.slice Ao63 t174.length co63)) (fun _ h_ => h_.1))) hb); have n3_ := Aside0.mk (Kd.R_below (by (with_reducible repeat (first | apply Kd.R_alloc | apply Kd.R_drewN | apply Kd.R_drew)); exact (Kd.R_mono (Kd.R_far (p := ⟨gb178, 2, none⟩) (Kd.R_far (p := ⟨gb178, 1, none⟩) (Kd.R_far (p := ⟨gb178, 0, none⟩) (Kd.R_types HO176.out BK178.out (by decide)) (fun _ hk => hk.2) (.int .i64 t172)) (fun _ hk => hk.2) (.string t173)) (fun _ hk => hk.2) (.slice Ao63 t174.length co63)) (fun _ h_ => h_.1))) hb); have n4_ := Aside0.mk (kb BK171.out hb); have n5_ := Aside0.mk (blk_below (g := gb178) (o := .cells #[.int .i64 t172, .string t173, .slice Ao63 t174.length co63] 28 (0, 0)) (by (with_reducible repeat (first | refine blk_drewN ?_ _ | refine blk_drew ?_ | refine blk_alloc ?_ _)); refine blk_put (cs := #[.int .i64 t172, .string t173, .slice none 0 0]) ?_ 2 _ rfl; (with_reducible repeat (first | refine blk_drewN ?_ _ | refine blk_drew ?_ | refine blk_alloc ?_ _)); refine blk_put (cs := #[.int .i64 t172, .string (⟨#[]⟩ : ByteArray), .slice none 0 0]) ?_ 1 _ rfl; (with_reducible repeat (first | refine blk_drewN ?_ _ | refine blk_drew ?_ | refine blk_alloc ?_ _)); refine blk_put (cs := #[.int .i64 0, .string (⟨#[]⟩ : ByteArray), .slice none 0 0]) ?_ 0 _ rfl; (with_reducible repeat (first | refine blk_drewN ?_ _ | refine blk_drew ?_ | refine blk_alloc ?_ _)); exact BK178.out) hb); have n6_ := Aside0.mk (below_step bl hb); have m0_ := Aside0.mk (MapK.below (mkk HM.out) hb); clear HM; have HM := m0_; clear m0_; clear HO_6; clear HO_7; clear HO_21; clear HO176; clear BK171; clear BK178; clear HB; have HO_6 := n0_; have HO_7 := n1_; have HO_21 := n2_; have HO176 := n3_; have BK171 := n4_; have BK178 := n5_; have HB := n6_; clear n0_ n1_ n2_ n3_ n4_ n5_ n6_; (try clear hb); (try clear hb2); (try clear hk); (try clear hi); obtain ⟨Ao65, co65, eo65⟩ := Kd.S_slice HO_6.out; subst eo65; have hlk := MapK.look HM.out (t := 24) Tryd.underlying9 Tryd.underlying24 Tryd.underlying3 rfl t179 (lines_Parse_key_size A13.out); rw [show (if t179.data.toList ∈ lines_Parse_keys x6_1 then (1 : Int) else 0) = t186 from Option.some.inj A41.out] at hlk; have hcz66_0 : w64.cell? ⟨gb171, 0, none⟩ = some (.int .i64 ((rd_T66 t167 x23_1).f0)) := (blk_cell BK171.out 0).trans rfl; have hcz66_1 : w64.cell? ⟨gb171, 1, none⟩ = some (.string ((rd_T66 t167 x23_1).f1)) := (blk_cell BK171.out 1).trans rfl; have hcz66_2 : w64.cell? ⟨gb171, 2, none⟩ = some (.bool ((rd_T66 t167 x23_1).f2)) := (blk_cell BK171.out 2).trans rfl; have hfz66_0 := blk_frozen BK171.out 0; have hfz66_1 := blk_frozen BK171.out 1; have hfz66_2 := blk_frozen BK171.out 2) | ((with_reducible refine gate_builtin (b := .append) (xs := #[.tmp 50, .tmp 55]) rfl ?_); at_builtin; refine Kd.R_append k48 (w0 := w) w.heap.size rfl (.tmp 50) (.tmp 55) 30 48 (.agg #[(.int .i64 0), (.int .i64 0)]) 16 rfl Tryd.underlying30 info48 rfl (by decide) (by omega) u7 x7_1 (⟨(rd_T66 t167 x23_1).f0, 9⟩ : S48) [.int .i64 ((rd_T66 t167 x23_1).f0), .int .i64 9] (fun _ => True) (fun _ => False) rfl rfl ?aP (fun _ hk => hk.elim) ?aF ?aO ?aB ?aS ?aL ?_; (case aP => exact k48_mkM _ _ _ (⟨(rd_T66 t167 x23_1).f0, 9⟩ : S48)); (case aB => exact bl); (case aF => exact (fun _ _ => trivial)); (case aO => exact (kr HO_7.out)); (case aS => exact (below_size bl)); (case aL => have := LMc56.out; omega); intro v191 w67 ho hb hg hat; rw [← Ny190.out] at ho; have n0_ := Aside0.mk (Kd.S_over' (by (with_reducible repeat (first | apply Kd.S_alloc | apply Kd.S_drewN | apply Kd.S_drew)); exact HO_6.out) (Kd.R_typed (kr HO_7.out)) (by decide) hg); have n1_ := Aside0.mk (Kd.R_over' (kr HO_21.out) (Kd.R_typed (kr HO_7.out)) (by decide) hg); have n2_ := Aside0.mk (blk_grown (g := gb171) (o := .cells #[.int .i64 ((rd_T66 t167 x23_1).f0), .string ((rd_T66 t167 x23_1).f1), .bool ((rd_T66 t167 x23_1).f2)] 66 (0, 0)) (bk BK171.out) hg (Kd.R_ne HO_7.out BK171.out (by decide))); have n3_ := Aside0.mk (Kd.R_over' (kr HO176.out) (Kd.R_typed (kr HO_7.out)) (by decide) hg); have n4_ := Aside0.mk (blk_grown (g := gb178) (o := .cells #[.int .i64 t172, .string t173, .slice Ao63 t174.length co63] 28 (0, 0)) (bk BK178.out) hg (Kd.R_ne HO_7.out BK178.out (by decide))); have n5_ := Aside0.mk (hb); have n6_ := Aside0.mk (ho); have m0_ := Aside0.mk (MapK.grown (mkk HM.out) hg (Kd.R_typed (kr HO_7.out))); clear HM; have HM := m0_; clear m0_; clear HO_6; clear HO_21; clear BK171; clear HO176; clear BK178; clear HB; clear HO_7; have HO_6 := n0_; have HO_21 := n1_; have BK171 := n2_; have HO176 := n3_; have BK178 := n4_; have HB := n5_; have HO192 := n6_; clear n0_ n1_ n2_ n3_ n4_ n5_ n6_; clear ho hb hg hat))
            go_roundg k1
            case measure => have := HK1.out; omega
            case rel => exact ⟨(x6_1), (y190), (wrap64 (x23_1 + 1)), (by first | rfl | (simp; done) | (simp [*]; done)), H', ⟨by have := HK1.out; omega⟩, ⟨by (with_reducible repeat (first | apply Kd.S_alloc | apply Kd.S_drewN | apply Kd.S_drew)); exact Kd.S_mono HO_6.out (fun _ hk => trivial)⟩, ⟨by (with_reducible repeat (first | apply Kd.R_alloc | apply Kd.R_drewN | apply Kd.R_drew)); exact HO192.out⟩, ⟨by (with_reducible repeat (first | apply Kd.R_alloc | apply Kd.R_drewN | apply Kd.R_drew)); exact Kd.R_mono HO_21.out (fun _ hk => trivial)⟩, ⟨by repeat (first | (with_reducible first | exact HB.out | apply below_alloc | apply pw_below_drewN | apply below_drew1 | refine below_set ?_ GE171.out | refine below_set ?_ GE178.out) | exact HB.out)⟩, ⟨mkk HM.out⟩⟩
           ·rw [if_neg c56] at H
            exact absurd H (by simp)
         ·rw [if_neg c42] at H
          have c42b0 : decide (0 < t186) = false := decide_eq_false c42
          clear c42
          by_cases c68 : x6_1.length < 2932031007402
          ·rw [if_pos c68] at H
           have LMc68 := Aside0.mk c68
           clear c68
           obtain ⟨y193, hy193⟩ : ∃ y_ : List (S28), y_ = (x6_1 ++ [(⟨t172, t173, t174⟩ : S28)]) := ⟨_, rfl⟩
           replace H : (lines_Parse.l0 k1 a1 y193 x7_1 t167 (t167.length : Int) (wrap64 (x23_1 + 1))) = some (r1, r2) := by first | (rw [hy193]; with_reducible exact H) | (have H2_ := (Option.bind_some _ _).symm.trans H; rw [hy193]; with_reducible exact H2_) | (have H2_ := (Option.bind_some _ _).symm.trans H; with_reducible exact H2_) | with_reducible exact H | (rw [hy193]; exact H) | exact H
           have Ny193 := Aside0.mk hy193
           clear hy193
           have H' := Aside0.mk H
           clear H
           have p170 : 0 ≤ (x23_1 : Int) := od
           have q170 : x23_1 < (t167.length : Int) := od
           obtain ⟨ad170, e170, hx170_0, hx170_1, hx170_2⟩ := at_T66 (Kd.R_reads' HO_21.out).2.2 x23_1 p170 q170
           cases e170
           replace p170 := eq_true p170
           replace q170 := eq_true q170
           go_wp2_with (first | ((with_reducible refine gate_dst (N := 10) rfl ?_); refine box_event ?hg (N := 10) ?hd (cs := #[.int .i64 0, .string (⟨#[]⟩ : ByteArray), .bool false]) (t := 66) ?hr ?_; (case hd => rfl); (case hg => rfl); (case hr => first | (go_simp; done) | (go_simp; rfl)); intro gb171 hg w69 hbox hb; have n0_ := Aside0.mk (Kd.S_below (by (with_reducible repeat (first | apply Kd.S_alloc | apply Kd.S_drewN | apply Kd.S_drew)); exact HO_6.out) hb); have n1_ := Aside0.mk (Kd.R_below (kr HO_7.out) hb); have n2_ := Aside0.mk (Kd.R_below (Kd.R_elderB (kr HO_21.out) gb171 (Nat.le_of_eq hg.symm)) hb); have n3_ := Aside0.mk (below_step bl hb); have n4_ := Aside0.mk (hbox); have n5_ := Aside0.mk ((by rw [hg]; exact (below_size bl) : w.heap.size ≤ gb171)); have n6_ := Aside0.mk ((by rw [hg]; exact (below_size bl) : w.heap.size ≤ gb171)); have m0_ := Aside0.mk (MapK.below (mkk HM.out) hb); clear HM; have HM := m0_; clear m0_; clear HO_6; clear HO_7; clear HO_21; clear HB; have HO_6 := n0_; have HO_7 := n1_; have HO_21 := n2_; have HB := n3_; have BK171 := n4_; have GW171 := n5_; have GE171 := n6_; clear n0_ n1_ n2_ n3_ n4_ n5_ n6_; clear hb hbox hg; have hcz70_0 : w69.cell? ⟨gb171, 0, none⟩ = some (.int .i64 0) := (blk_cell BK171.out 0).trans rfl; have hcz70_1 : w69.cell? ⟨gb171, 1, none⟩ = some (.string (⟨#[]⟩ : ByteArray)) := (blk_cell BK171.out 1).trans rfl; have hcz70_2 : w69.cell? ⟨gb171, 2, none⟩ = some (.bool false) := (blk_cell BK171.out 2).trans rfl; have hfz70_0 := blk_frozen BK171.out 0; have hfz70_1 := blk_frozen BK171.out 1; have hfz70_2 := blk_frozen BK171.out 2) | ((with_reducible refine gate_callee (f := 28) rfl ?_); refine goesL_ (some 30) rfl rfl Tryd.func28 (by kernel_rfl) rfl #[.agg #[.int .i64 ((rd_T66 t167 x23_1).f0), .string ((rd_T66 t167 x23_1).f1), .bool ((rd_T66 t167 x23_1).f2)], .bool a1] rfl ml ?_; (with_reducible refine (lines_said_entry.calls k1 ((rd_T66 t167 x23_1).f0) ((rd_T66 t167 x23_1).f1) ((rd_T66 t167 x23_1).f2) a1 t172 t173 t174 t177 _ ?side1 A12.out).mono ?_); (case side1 => exact Glob.below HG.out bl); rintro e w71 ⟨v175, rfl, ho0, hb⟩; refine ⟨_, rfl, ?_⟩; have n0_ := Aside0.mk (Kd.S_elder' (by (with_reducible repeat (first | apply Kd.S_alloc | apply Kd.S_drewN | apply Kd.S_drew)); exact (Kd.S_mono (Kd.S_far (p := ⟨gb171, 2, none⟩) (Kd.S_far (p := ⟨gb171, 1, none⟩) (Kd.S_far (p := ⟨gb171, 0, none⟩) (Kd.S_types HO_6.out BK171.out (by decide)) (fun _ hk => hk.2) (.int .i64 ((rd_T66 t167 x23_1).f0))) (fun _ hk => hk.2) (.string ((rd_T66 t167 x23_1).f1))) (fun _ hk => hk.2) (.bool ((rd_T66 t167 x23_1).f2))) (fun _ h_ => h_.1))) (Kd.R_base ho0) hb); have n1_ := Aside0.mk (Kd.R_below (by (with_reducible repeat (first | apply Kd.R_alloc | apply Kd.R_drewN | apply Kd.R_drew)); exact (Kd.R_mono (Kd.R_far (p := ⟨gb171, 2, none⟩) (Kd.R_far (p := ⟨gb171, 1, none⟩) (Kd.R_far (p := ⟨gb171, 0, none⟩) (Kd.R_types HO_7.out BK171.out (by decide)) (fun _ hk => hk.2) (.int .i64 ((rd_T66 t167 x23_1).f0))) (fun _ hk => hk.2) (.string ((rd_T66 t167 x23_1).f1))) (fun _ hk => hk.2) (.bool ((rd_T66 t167 x23_1).f2))) (fun _ h_ => h_.1))) hb); have n2_ := Aside0.mk (Kd.R_below (by (with_reducible repeat (first | apply Kd.R_alloc | apply Kd.R_drewN | apply Kd.R_drew)); exact (Kd.R_mono (Kd.R_far (p := ⟨gb171, 2, none⟩) (Kd.R_far (p := ⟨gb171, 1, none⟩) (Kd.R_far (p := ⟨gb171, 0, none⟩) (Kd.R_mono HO_21.out (fun k_ hk => (⟨hk, hk.2⟩ : _ ∧ k_ ≠ gb171))) (fun _ hk => hk.2) (.int .i64 ((rd_T66 t167 x23_1).f0))) (fun _ hk => hk.2) (.string ((rd_T66 t167 x23_1).f1))) (fun _ hk => hk.2) (.bool ((rd_T66 t167 x23_1).f2))) (fun _ h_ => h_.1))) hb); have n3_ := Aside0.mk (Kd.R_lower ho0 (below_size bl)); have n4_ := Aside0.mk (blk_below (g := gb171) (o := .cells #[.int .i64 ((rd_T66 t167 x23_1).f0), .string ((rd_T66 t167 x23_1).f1), .bool ((rd_T66 t167 x23_1).f2)] 66 (0, 0)) (by (with_reducible repeat (first | refine blk_drewN ?_ _ | refine blk_drew ?_ | refine blk_alloc ?_ _)); refine blk_put (cs := #[.int .i64 ((rd_T66 t167 x23_1).f0), .string ((rd_T66 t167 x23_1).f1), .bool false]) ?_ 2 _ rfl; (with_reducible repeat (first | refine blk_drewN ?_ _ | refine blk_drew ?_ | refine blk_alloc ?_ _)); refine blk_put (cs := #[.int .i64 ((rd_T66 t167 x23_1).f0), .string (⟨#[]⟩ : ByteArray), .bool false]) ?_ 1 _ rfl; (with_reducible repeat (first | refine blk_drewN ?_ _ | refine blk_drew ?_ | refine blk_alloc ?_ _)); refine blk_put (cs := #[.int .i64 0, .string (⟨#[]⟩ : ByteArray), .bool false]) ?_ 0 _ rfl; (with_reducible repeat (first | refine blk_drewN ?_ _ | refine blk_drew ?_ | refine blk_alloc ?_ _)); exact BK171.out) hb); have n5_ := Aside0.mk (below_step bl hb); have m0_ := Aside0.mk (MapK.below (mkk HM.out) hb); clear HM; have HM := m0_; clear m0_; clear HO_6; clear HO_7; clear HO_21; clear BK171; clear HB; have HO_6 := n0_; have HO_7 := n1_; have HO_21 := n2_; have HO176 := n3_; have BK171 := n4_; have HB := n5_; clear n0_ n1_ n2_ n3_ n4_ n5_; (try clear hb); (try clear hb2); (try clear hk); (try clear hi); (try clear ho0)) | ((with_reducible refine gate_dst (N := 11) rfl ?_); refine box_event ?hg (N := 11) ?hd (cs := #[.int .i64 0, .string (⟨#[]⟩ : ByteArray), .slice none 0 0]) (t := 28) ?hr ?_; (case hd => rfl); (case hg => rfl); (case hr => first | (go_simp; done) | (go_simp; rfl)); intro gb178 hg w72 hbox hb; have n0_ := Aside0.mk (Kd.S_below (Kd.S_elderB (by (with_reducible repeat (first | apply Kd.S_alloc | apply Kd.S_drewN | apply Kd.S_drew)); exact HO_6.out) gb178 (Nat.le_of_eq hg.symm)) hb); have n1_ := Aside0.mk (Kd.R_below (kr HO_7.out) hb); have n2_ := Aside0.mk (Kd.R_below (kr HO_21.out) hb); have n3_ := Aside0.mk (Kd.R_below (kr HO176.out) hb); have n4_ := Aside0.mk (kb BK171.out hb); have n5_ := Aside0.mk (below_step bl hb); have n6_ := Aside0.mk (hbox); have n7_ := Aside0.mk ((by rw [hg]; exact (below_size bl) : w.heap.size ≤ gb178)); have n8_ := Aside0.mk ((by rw [hg]; exact (below_size bl) : w.heap.size ≤ gb178)); have n9_ := Aside0.mk ((by rw [hg]; exact Nat.ne_of_lt (blk_lt (bk BK171.out)) : gb171 ≠ gb178)); have n10_ := Aside0.mk ((by rw [hg]; exact Nat.ne_of_gt (blk_lt (bk BK171.out)) : gb178 ≠ gb171)); have m0_ := Aside0.mk (MapK.below (mkk HM.out) hb); clear HM; have HM := m0_; clear m0_; clear HO_6; clear HO_7; clear HO_21; clear HO176; clear BK171; clear HB; have HO_6 := n0_; have HO_7 := n1_; have HO_21 := n2_; have HO176 := n3_; have BK171 := n4_; have HB := n5_; have BK178 := n6_; have GW178 := n7_; have GE178 := n8_; have NB171_178 := n9_; have NB178_171 := n10_; clear n0_ n1_ n2_ n3_ n4_ n5_ n6_ n7_ n8_ n9_ n10_; clear hb hbox hg; have hnb73 := NB178_171.out; have hnc73 := NB171_178.out; have hcz74_0 : w72.cell? ⟨gb178, 0, none⟩ = some (.int .i64 0) := (blk_cell BK178.out 0).trans rfl; have hcz74_1 : w72.cell? ⟨gb178, 1, none⟩ = some (.string (⟨#[]⟩ : ByteArray)) := (blk_cell BK178.out 1).trans rfl; have hcz74_2 : w72.cell? ⟨gb178, 2, none⟩ = some (.slice none 0 0) := (blk_cell BK178.out 2).trans rfl; have hfz74_0 := blk_frozen BK178.out 0; have hfz74_1 := blk_frozen BK178.out 1; have hfz74_2 := blk_frozen BK178.out 2; obtain ⟨Ao75, co75, eo75⟩ := Kd.R_slice HO176.out; subst eo75) | ((with_reducible refine gate_callee (f := 8) rfl ?_); refine goesL_ (some 35) rfl rfl Tryd.func8 (by kernel_rfl) rfl #[.string t173] rfl ml ?_; (with_reducible refine (strings_ToLower.calls t173 t179 _ A13.out).mono ?_); rintro e w76 ⟨rfl, hb⟩; refine ⟨_, rfl, ?_⟩; have n0_ := Aside0.mk (Kd.S_below (by (with_reducible repeat (first | apply Kd.S_alloc | apply Kd.S_drewN | apply Kd.S_drew)); exact (Kd.S_mono (Kd.S_far (p := ⟨gb178, 2, none⟩) (Kd.S_far (p := ⟨gb178, 1, none⟩) (Kd.S_far (p := ⟨gb178, 0, none⟩) (Kd.S_mono HO_6.out (fun k_ hk => (⟨hk, hk.2⟩ : _ ∧ k_ ≠ gb178))) (fun _ hk => hk.2) (.int .i64 t172)) (fun _ hk => hk.2) (.string t173)) (fun _ hk => hk.2) (.slice Ao75 t174.length co75)) (fun _ h_ => h_.1))) hb); have n1_ := Aside0.mk (Kd.R_below (by (with_reducible repeat (first | apply Kd.R_alloc | apply Kd.R_drewN | apply Kd.R_drew)); exact (Kd.R_mono (Kd.R_far (p := ⟨gb178, 2, none⟩) (Kd.R_far (p := ⟨gb178, 1, none⟩) (Kd.R_far (p := ⟨gb178, 0, none⟩) (Kd.R_types HO_7.out BK178.out (by decide)) (fun _ hk => hk.2) (.int .i64 t172)) (fun _ hk => hk.2) (.string t173)) (fun _ hk => hk.2) (.slice Ao75 t174.length co75)) (fun _ h_ => h_.1))) hb); have n2_ := Aside0.mk (Kd.R_below (by (with_reducible repeat (first | apply Kd.R_alloc | apply Kd.R_drewN | apply Kd.R_drew)); exact (Kd.R_mono (Kd.R_far (p := ⟨gb178, 2, none⟩) (Kd.R_far (p := ⟨gb178, 1, none⟩) (Kd.R_far (p := ⟨gb178, 0, none⟩) (Kd.R_types HO_21.out BK178.out (by decide)) (fun _ hk => hk.2) (.int .i64 t172)) (fun _ hk => hk.2) (.string t173)) (fun _ hk => hk.2) (.slice Ao75 t174.length co75)) (fun _ h_ => h_.1))) hb); have n3_ := Aside0.mk (Kd.R_below (by (with_reducible repeat (first | apply Kd.R_alloc | apply Kd.R_drewN | apply Kd.R_drew)); exact (Kd.R_mono (Kd.R_far (p := ⟨gb178, 2, none⟩) (Kd.R_far (p := ⟨gb178, 1, none⟩) (Kd.R_far (p := ⟨gb178, 0, none⟩) (Kd.R_types HO176.out BK178.out (by decide)) (fun _ hk => hk.2) (.int .i64 t172)) (fun _ hk => hk.2) (.string t173)) (fun _ hk => hk.2) (.slice Ao75 t174.length co75)) (fun _ h_ => h_.1))) hb); have n4_ := Aside0.mk (kb BK171.out hb); have n5_ := Aside0.mk (blk_below (g := gb178) (o := .cells #[.int .i64 t172, .string t173, .slice Ao75 t174.length co75] 28 (0, 0)) (by (with_reducible repeat (first | refine blk_drewN ?_ _ | refine blk_drew ?_ | refine blk_alloc ?_ _)); refine blk_put (cs := #[.int .i64 t172, .string t173, .slice none 0 0]) ?_ 2 _ rfl; (with_reducible repeat (first | refine blk_drewN ?_ _ | refine blk_drew ?_ | refine blk_alloc ?_ _)); refine blk_put (cs := #[.int .i64 t172, .string (⟨#[]⟩ : ByteArray), .slice none 0 0]) ?_ 1 _ rfl; (with_reducible repeat (first | refine blk_drewN ?_ _ | refine blk_drew ?_ | refine blk_alloc ?_ _)); refine blk_put (cs := #[.int .i64 0, .string (⟨#[]⟩ : ByteArray), .slice none 0 0]) ?_ 0 _ rfl; (with_reducible repeat (first | refine blk_drewN ?_ _ | refine blk_drew ?_ | refine blk_alloc ?_ _)); exact BK178.out) hb); have n6_ := Aside0.mk (below_step bl hb); have m0_ := Aside0.mk (MapK.below (mkk HM.out) hb); clear HM; have HM := m0_; clear m0_; clear HO_6; clear HO_7; clear HO_21; clear HO176; clear BK171; clear BK178; clear HB; have HO_6 := n0_; have HO_7 := n1_; have HO_21 := n2_; have HO176 := n3_; have BK171 := n4_; have BK178 := n5_; have HB := n6_; clear n0_ n1_ n2_ n3_ n4_ n5_ n6_; (try clear hb); (try clear hb2); (try clear hk); (try clear hi); obtain ⟨Ao77, co77, eo77⟩ := Kd.S_slice HO_6.out; subst eo77; have hlk := MapK.look HM.out (t := 24) Tryd.underlying9 Tryd.underlying24 Tryd.underlying3 rfl t179 (lines_Parse_key_size A13.out); rw [show (if t179.data.toList ∈ lines_Parse_keys x6_1 then (1 : Int) else 0) = t186 from Option.some.inj A41.out] at hlk) | (at_mapUpdate; refine wpList_mapk rfl _ _ _ 24 rfl Tryd.underlying9 Tryd.underlying24 Tryd.underlying3 (mkk HM.out) (by have hl_ := of_decide_eq_false c15b1; unfold lines_Parse_keys; rw [List.length_map]; unfold maxLen; omega) _ (lines_Parse_key_size A13.out) rfl rfl rfl ?_; intro wmu hM hg; have q0_ := Aside0.mk (Kd.S_mapk (by (with_reducible repeat (first | apply Kd.S_alloc | apply Kd.S_drewN | apply Kd.S_drew)); exact HO_6.out) (mkk HM.out) hg); have q1_ := Aside0.mk (Kd.R_mapk (kr HO176.out) (mkk HM.out) hg); have q2_ := Aside0.mk (Kd.R_mapk (kr HO_21.out) (mkk HM.out) hg); have q3_ := Aside0.mk (Kd.R_mapk (kr HO_7.out) (mkk HM.out) hg); have q4_ := Aside0.mk (blk_mapk (bk BK171.out) (mkk HM.out) hg); have q5_ := Aside0.mk (blk_mapk (bk BK178.out) (mkk HM.out) hg); have q6_ := Aside0.mk (below_mapk bl (Nat.le_refl _) hg); clear HM; have HM := Aside0.mk hM; clear hM hg; clear HO_6; have HO_6 := q0_; clear q0_; clear HO176; have HO176 := q1_; clear q1_; clear HO_21; have HO_21 := q2_; clear q2_; clear HO_7; have HO_7 := q3_; clear q3_; clear BK171; have BK171 := q4_; clear q4_; clear BK178; have BK178 := q5_; clear q5_; clear HB; have HB := q6_; clear q6_; have hcz78_0 : wmu.cell? ⟨gb178, 0, none⟩ = some (.int .i64 t172) := (blk_cell BK178.out 0).trans rfl; have hcz78_1 : wmu.cell? ⟨gb178, 1, none⟩ = some (.string t173) := (blk_cell BK178.out 1).trans rfl; have hcz78_2 : wmu.cell? ⟨gb178, 2, none⟩ = some (.slice Ao75 t174.length co75) := (blk_cell BK178.out 2).trans rfl; have hfz78_0 := blk_frozen BK178.out 0; have hfz78_1 := blk_frozen BK178.out 1; have hfz78_2 := blk_frozen BK178.out 2) | ((with_reducible refine gate_builtin (b := .append) (xs := #[.tmp 59, .tmp 61]) rfl ?_); at_builtin; refine Kd.S_append k28 (w0 := w) w.heap.size rfl (.tmp 59) (.tmp 61) 22 28 (.agg #[(.int .i64 0), (.string ⟨#[]⟩), (.slice none 0 0)]) 48 rfl Tryd.underlying22 info28 rfl (by decide) (by omega) (.slice Ao77 x6_1.length co77) x6_1 (⟨t172, t173, t174⟩ : S28) [.int .i64 t172, .string t173, .slice Ao75 t174.length co75] (fun k_ => k_ ≠ gb178) (fun k_ => some k_ = (.slice Ao75 t174.length co75 : Value).ownBlock) rfl rfl ?aP (fun k_ hk_ => ((Kd.R_mono (ok' := fun k_ => ((fun k_ => k_ ≠ gb178)) k_ ∧ some k_ ≠ (.slice Ao77 x6_1.length co77 : Value).ownBlock) (Kd.R_types (Kd.R_apart' (HO176.out) (Kd.S_typed HO_6.out) (by decide)) BK178.out (by decide)) (fun k_ hk => ⟨hk.2, hk.1.2⟩))).1 k_ hk_.symm) ?aF ?aO ?aB ?aS ?aL ?_; (case aP => exact k28_mkM _ _ _ (⟨t172, t173, t174⟩ : S28) (Kd.R_mono (Kd.R_tight rfl (Kd.R_mono (ok' := fun k_ => ((fun k_ => k_ ≠ gb178)) k_ ∧ some k_ ≠ (.slice Ao77 x6_1.length co77 : Value).ownBlock) (Kd.R_types (Kd.R_apart' (HO176.out) (Kd.S_typed HO_6.out) (by decide)) BK178.out (by decide)) (fun k_ hk => ⟨hk.2, hk.1.2⟩))) (fun _ h_ => h_))); (case aB => exact bl); (case aF => exact (fun k_ hk => Kd.freshB (g := gb178) (o := .cells #[.int .i64 t172, .string t173, .slice Ao75 t174.length co75] 28 (0, 0)) (bk BK178.out) k_ hk)); (case aO => exact (by (with_reducible repeat (first | apply Kd.S_alloc | apply Kd.S_drewN | apply Kd.S_drew)); exact Kd.S_mono HO_6.out (fun k_ hk => ⟨hk.2, fun e_ => hk.1.2 e_⟩))); (case aS => exact (below_size bl)); (case aL => have := LMc68.out; omega); intro v194 w79 ho hb hg hat; rw [← Ny193.out] at ho; have n0_ := Aside0.mk (Kd.R_over' (kr HO_7.out) (Kd.S_typed (by (with_reducible repeat (first | apply Kd.S_alloc | apply Kd.S_drewN | apply Kd.S_drew)); exact HO_6.out)) (by decide) hg); have n1_ := Aside0.mk (Kd.R_over' (kr HO_21.out) (Kd.S_typed (by (with_reducible repeat (first | apply Kd.S_alloc | apply Kd.S_drewN | apply Kd.S_drew)); exact HO_6.out)) (by decide) hg); have n2_ := Aside0.mk (blk_grown (g := gb171) (o := .cells #[.int .i64 ((rd_T66 t167 x23_1).f0), .string ((rd_T66 t167 x23_1).f1), .bool ((rd_T66 t167 x23_1).f2)] 66 (0, 0)) (bk BK171.out) hg (Kd.S_ne HO_6.out BK171.out (by decide))); have n3_ := Aside0.mk (blk_grown (g := gb178) (o := .cells #[.int .i64 t172, .string t173, .slice Ao75 t174.length co75] 28 (0, 0)) (bk BK178.out) hg (Kd.S_away HO_6.out (fun _ hk => hk.2))); have n4_ := Aside0.mk (hb); have n5_ := Aside0.mk (ho); clear HO_7; clear HO_21; clear BK171; clear BK178; clear HB; have m0_ := Aside0.mk (MapK.grown (mkk HM.out) hg (Kd.S_typed (by (with_reducible repeat (first | apply Kd.S_alloc | apply Kd.S_drewN | apply Kd.S_drew)); exact HO_6.out))); clear HM; have HM := m0_; clear m0_; clear HO_6; clear HO176; have HO_7 := n0_; have HO_21 := n1_; have BK171 := n2_; have BK178 := n3_; have HB := n4_; have HO195 := n5_; clear n0_ n1_ n2_ n3_ n4_ n5_; clear ho hb hg hat))
           go_roundg k1
           case measure => have := HK1.out; omega
           case rel => exact ⟨(y193), (x7_1), (wrap64 (x23_1 + 1)), (by first | rfl | (simp; done) | (simp [*]; done)), H', ⟨by have := HK1.out; omega⟩, ⟨by (with_reducible repeat (first | apply Kd.S_alloc | apply Kd.S_drewN | apply Kd.S_drew)); exact Kd.S_mono HO195.out (fun _ hk => trivial)⟩, ⟨by (with_reducible repeat (first | apply Kd.R_alloc | apply Kd.R_drewN | apply Kd.R_drew)); exact HO_7.out⟩, ⟨by (with_reducible repeat (first | apply Kd.R_alloc | apply Kd.R_drewN | apply Kd.R_drew)); exact Kd.R_mono HO_21.out (fun _ hk => trivial)⟩, ⟨by repeat (first | (with_reducible first | exact HB.out | apply below_alloc | apply pw_below_drewN | apply below_drew1 | refine below_set ?_ GE171.out | refine below_set ?_ GE178.out) | exact HB.out)⟩, ⟨by rw [Ny193.out, lines_Parse_keys_snoc A13.out]; exact mkk HM.out⟩⟩
          ·rw [if_neg c68] at H
           exact absurd H (by simp)
       ·rw [if_neg c14] at H
        have c14b0 : (t177 == 0) = false := beq_eq_false_iff_ne.mpr c14
        have c14b1 : (t177 != 0) = true := bne_iff_ne.mpr c14
        by_cases c80 : x7_1.length < 8796093022208
        ·rw [if_pos c80] at H
         have LMc80 := Aside0.mk c80
         clear c80
         obtain ⟨y196, hy196⟩ : ∃ y_ : List (S48), y_ = (x7_1 ++ [(⟨(rd_T66 t167 x23_1).f0, t177⟩ : S48)]) := ⟨_, rfl⟩
         replace H : (lines_Parse.l0 k1 a1 x6_1 y196 t167 (t167.length : Int) (wrap64 (x23_1 + 1))) = some (r1, r2) := by first | (rw [hy196]; with_reducible exact H) | (have H2_ := (Option.bind_some _ _).symm.trans H; rw [hy196]; with_reducible exact H2_) | (have H2_ := (Option.bind_some _ _).symm.trans H; with_reducible exact H2_) | with_reducible exact H | (rw [hy196]; exact H) | exact H
         have Ny196 := Aside0.mk hy196
         clear hy196
         have H' := Aside0.mk H
         clear H
         have p170 : 0 ≤ (x23_1 : Int) := od
         have q170 : x23_1 < (t167.length : Int) := od
         obtain ⟨ad170, e170, hx170_0, hx170_1, hx170_2⟩ := at_T66 (Kd.R_reads' HO_21.out).2.2 x23_1 p170 q170
         cases e170
         replace p170 := eq_true p170
         replace q170 := eq_true q170
         go_wp2_with (first | ((with_reducible refine gate_dst (N := 10) rfl ?_); refine box_event ?hg (N := 10) ?hd (cs := #[.int .i64 0, .string (⟨#[]⟩ : ByteArray), .bool false]) (t := 66) ?hr ?_; (case hd => rfl); (case hg => rfl); (case hr => first | (go_simp; done) | (go_simp; rfl)); intro gb171 hg w81 hbox hb; have n0_ := Aside0.mk (Kd.S_below (by (with_reducible repeat (first | apply Kd.S_alloc | apply Kd.S_drewN | apply Kd.S_drew)); exact HO_6.out) hb); have n1_ := Aside0.mk (Kd.R_below (kr HO_7.out) hb); have n2_ := Aside0.mk (Kd.R_below (Kd.R_elderB (kr HO_21.out) gb171 (Nat.le_of_eq hg.symm)) hb); have n3_ := Aside0.mk (below_step bl hb); have n4_ := Aside0.mk (hbox); have n5_ := Aside0.mk ((by rw [hg]; exact (below_size bl) : w.heap.size ≤ gb171)); have n6_ := Aside0.mk ((by rw [hg]; exact (below_size bl) : w.heap.size ≤ gb171)); have m0_ := Aside0.mk (MapK.below (mkk HM.out) hb); clear HM; have HM := m0_; clear m0_; clear HO_6; clear HO_7; clear HO_21; clear HB; have HO_6 := n0_; have HO_7 := n1_; have HO_21 := n2_; have HB := n3_; have BK171 := n4_; have GW171 := n5_; have GE171 := n6_; clear n0_ n1_ n2_ n3_ n4_ n5_ n6_; clear hb hbox hg; have hcz82_0 : w81.cell? ⟨gb171, 0, none⟩ = some (.int .i64 0) := (blk_cell BK171.out 0).trans rfl; have hcz82_1 : w81.cell? ⟨gb171, 1, none⟩ = some (.string (⟨#[]⟩ : ByteArray)) := (blk_cell BK171.out 1).trans rfl; have hcz82_2 : w81.cell? ⟨gb171, 2, none⟩ = some (.bool false) := (blk_cell BK171.out 2).trans rfl; have hfz82_0 := blk_frozen BK171.out 0; have hfz82_1 := blk_frozen BK171.out 1; have hfz82_2 := blk_frozen BK171.out 2) | ((with_reducible refine gate_callee (f := 28) rfl ?_); refine goesL_ (some 30) rfl rfl Tryd.func28 (by kernel_rfl) rfl #[.agg #[.int .i64 ((rd_T66 t167 x23_1).f0), .string ((rd_T66 t167 x23_1).f1), .bool ((rd_T66 t167 x23_1).f2)], .bool a1] rfl ml ?_; (with_reducible refine (lines_said_entry.calls k1 ((rd_T66 t167 x23_1).f0) ((rd_T66 t167 x23_1).f1) ((rd_T66 t167 x23_1).f2) a1 t172 t173 t174 t177 _ ?side1 A12.out).mono ?_); (case side1 => exact Glob.below HG.out bl); rintro e w83 ⟨v175, rfl, ho0, hb⟩; refine ⟨_, rfl, ?_⟩; have n0_ := Aside0.mk (Kd.S_elder' (by (with_reducible repeat (first | apply Kd.S_alloc | apply Kd.S_drewN | apply Kd.S_drew)); exact (Kd.S_mono (Kd.S_far (p := ⟨gb171, 2, none⟩) (Kd.S_far (p := ⟨gb171, 1, none⟩) (Kd.S_far (p := ⟨gb171, 0, none⟩) (Kd.S_types HO_6.out BK171.out (by decide)) (fun _ hk => hk.2) (.int .i64 ((rd_T66 t167 x23_1).f0))) (fun _ hk => hk.2) (.string ((rd_T66 t167 x23_1).f1))) (fun _ hk => hk.2) (.bool ((rd_T66 t167 x23_1).f2))) (fun _ h_ => h_.1))) (Kd.R_base ho0) hb); have n1_ := Aside0.mk (Kd.R_below (by (with_reducible repeat (first | apply Kd.R_alloc | apply Kd.R_drewN | apply Kd.R_drew)); exact (Kd.R_mono (Kd.R_far (p := ⟨gb171, 2, none⟩) (Kd.R_far (p := ⟨gb171, 1, none⟩) (Kd.R_far (p := ⟨gb171, 0, none⟩) (Kd.R_types HO_7.out BK171.out (by decide)) (fun _ hk => hk.2) (.int .i64 ((rd_T66 t167 x23_1).f0))) (fun _ hk => hk.2) (.string ((rd_T66 t167 x23_1).f1))) (fun _ hk => hk.2) (.bool ((rd_T66 t167 x23_1).f2))) (fun _ h_ => h_.1))) hb); have n2_ := Aside0.mk (Kd.R_below (by (with_reducible repeat (first | apply Kd.R_alloc | apply Kd.R_drewN | apply Kd.R_drew)); exact (Kd.R_mono (Kd.R_far (p := ⟨gb171, 2, none⟩) (Kd.R_far (p := ⟨gb171, 1, none⟩) (Kd.R_far (p := ⟨gb171, 0, none⟩) (Kd.R_mono HO_21.out (fun k_ hk => (⟨hk, hk.2⟩ : _ ∧ k_ ≠ gb171))) (fun _ hk => hk.2) (.int .i64 ((rd_T66 t167 x23_1).f0))) (fun _ hk => hk.2) (.string ((rd_T66 t167 x23_1).f1))) (fun _ hk => hk.2) (.bool ((rd_T66 t167 x23_1).f2))) (fun _ h_ => h_.1))) hb); have n3_ := Aside0.mk (Kd.R_lower ho0 (below_size bl)); have n4_ := Aside0.mk (blk_below (g := gb171) (o := .cells #[.int .i64 ((rd_T66 t167 x23_1).f0), .string ((rd_T66 t167 x23_1).f1), .bool ((rd_T66 t167 x23_1).f2)] 66 (0, 0)) (by (with_reducible repeat (first | refine blk_drewN ?_ _ | refine blk_drew ?_ | refine blk_alloc ?_ _)); refine blk_put (cs := #[.int .i64 ((rd_T66 t167 x23_1).f0), .string ((rd_T66 t167 x23_1).f1), .bool false]) ?_ 2 _ rfl; (with_reducible repeat (first | refine blk_drewN ?_ _ | refine blk_drew ?_ | refine blk_alloc ?_ _)); refine blk_put (cs := #[.int .i64 ((rd_T66 t167 x23_1).f0), .string (⟨#[]⟩ : ByteArray), .bool false]) ?_ 1 _ rfl; (with_reducible repeat (first | refine blk_drewN ?_ _ | refine blk_drew ?_ | refine blk_alloc ?_ _)); refine blk_put (cs := #[.int .i64 0, .string (⟨#[]⟩ : ByteArray), .bool false]) ?_ 0 _ rfl; (with_reducible repeat (first | refine blk_drewN ?_ _ | refine blk_drew ?_ | refine blk_alloc ?_ _)); exact BK171.out) hb); have n5_ := Aside0.mk (below_step bl hb); have m0_ := Aside0.mk (MapK.below (mkk HM.out) hb); clear HM; have HM := m0_; clear m0_; clear HO_6; clear HO_7; clear HO_21; clear BK171; clear HB; have HO_6 := n0_; have HO_7 := n1_; have HO_21 := n2_; have HO176 := n3_; have BK171 := n4_; have HB := n5_; clear n0_ n1_ n2_ n3_ n4_ n5_; (try clear hb); (try clear hb2); (try clear hk); (try clear hi); (try clear ho0)) | ((with_reducible refine gate_dst (N := 11) rfl ?_); refine box_event ?hg (N := 11) ?hd (cs := #[.int .i64 0, .string (⟨#[]⟩ : ByteArray), .slice none 0 0]) (t := 28) ?hr ?_; (case hd => rfl); (case hg => rfl); (case hr => first | (go_simp; done) | (go_simp; rfl)); intro gb178 hg w84 hbox hb; have n0_ := Aside0.mk (Kd.S_below (Kd.S_elderB (by (with_reducible repeat (first | apply Kd.S_alloc | apply Kd.S_drewN | apply Kd.S_drew)); exact HO_6.out) gb178 (Nat.le_of_eq hg.symm)) hb); have n1_ := Aside0.mk (Kd.R_below (kr HO_7.out) hb); have n2_ := Aside0.mk (Kd.R_below (kr HO_21.out) hb); have n3_ := Aside0.mk (Kd.R_below (kr HO176.out) hb); have n4_ := Aside0.mk (kb BK171.out hb); have n5_ := Aside0.mk (below_step bl hb); have n6_ := Aside0.mk (hbox); have n7_ := Aside0.mk ((by rw [hg]; exact (below_size bl) : w.heap.size ≤ gb178)); have n8_ := Aside0.mk ((by rw [hg]; exact (below_size bl) : w.heap.size ≤ gb178)); have n9_ := Aside0.mk ((by rw [hg]; exact Nat.ne_of_lt (blk_lt (bk BK171.out)) : gb171 ≠ gb178)); have n10_ := Aside0.mk ((by rw [hg]; exact Nat.ne_of_gt (blk_lt (bk BK171.out)) : gb178 ≠ gb171)); have m0_ := Aside0.mk (MapK.below (mkk HM.out) hb); clear HM; have HM := m0_; clear m0_; clear HO_6; clear HO_7; clear HO_21; clear HO176; clear BK171; clear HB; have HO_6 := n0_; have HO_7 := n1_; have HO_21 := n2_; have HO176 := n3_; have BK171 := n4_; have HB := n5_; have BK178 := n6_; have GW178 := n7_; have GE178 := n8_; have NB171_178 := n9_; have NB178_171 := n10_; clear n0_ n1_ n2_ n3_ n4_ n5_ n6_ n7_ n8_ n9_ n10_; clear hb hbox hg; have hnb85 := NB178_171.out; have hnc85 := NB171_178.out; have hcz86_0 : w84.cell? ⟨gb178, 0, none⟩ = some (.int .i64 0) := (blk_cell BK178.out 0).trans rfl; have hcz86_1 : w84.cell? ⟨gb178, 1, none⟩ = some (.string (⟨#[]⟩ : ByteArray)) := (blk_cell BK178.out 1).trans rfl; have hcz86_2 : w84.cell? ⟨gb178, 2, none⟩ = some (.slice none 0 0) := (blk_cell BK178.out 2).trans rfl; have hfz86_0 := blk_frozen BK178.out 0; have hfz86_1 := blk_frozen BK178.out 1; have hfz86_2 := blk_frozen BK178.out 2; obtain ⟨Ao87, co87, eo87⟩ := Kd.R_slice HO176.out; subst eo87) | ((with_reducible refine gate_callee (f := 8) rfl ?_); refine goesL_ (some 35) rfl rfl Tryd.func8 (by kernel_rfl) rfl #[.string t173] rfl ml ?_; (with_reducible refine (strings_ToLower.calls t173 t179 _ A13.out).mono ?_); rintro e w88 ⟨rfl, hb⟩; refine ⟨_, rfl, ?_⟩; have n0_ := Aside0.mk (Kd.S_below (by (with_reducible repeat (first | apply Kd.S_alloc | apply Kd.S_drewN | apply Kd.S_drew)); exact (Kd.S_mono (Kd.S_far (p := ⟨gb178, 2, none⟩) (Kd.S_far (p := ⟨gb178, 1, none⟩) (Kd.S_far (p := ⟨gb178, 0, none⟩) (Kd.S_mono HO_6.out (fun k_ hk => (⟨hk, hk.2⟩ : _ ∧ k_ ≠ gb178))) (fun _ hk => hk.2) (.int .i64 t172)) (fun _ hk => hk.2) (.string t173)) (fun _ hk => hk.2) (.slice Ao87 t174.length co87)) (fun _ h_ => h_.1))) hb); have n1_ := Aside0.mk (Kd.R_below (by (with_reducible repeat (first | apply Kd.R_alloc | apply Kd.R_drewN | apply Kd.R_drew)); exact (Kd.R_mono (Kd.R_far (p := ⟨gb178, 2, none⟩) (Kd.R_far (p := ⟨gb178, 1, none⟩) (Kd.R_far (p := ⟨gb178, 0, none⟩) (Kd.R_types HO_7.out BK178.out (by decide)) (fun _ hk => hk.2) (.int .i64 t172)) (fun _ hk => hk.2) (.string t173)) (fun _ hk => hk.2) (.slice Ao87 t174.length co87)) (fun _ h_ => h_.1))) hb); have n2_ := Aside0.mk (Kd.R_below (by (with_reducible repeat (first | apply Kd.R_alloc | apply Kd.R_drewN | apply Kd.R_drew)); exact (Kd.R_mono (Kd.R_far (p := ⟨gb178, 2, none⟩) (Kd.R_far (p := ⟨gb178, 1, none⟩) (Kd.R_far (p := ⟨gb178, 0, none⟩) (Kd.R_types HO_21.out BK178.out (by decide)) (fun _ hk => hk.2) (.int .i64 t172)) (fun _ hk => hk.2) (.string t173)) (fun _ hk => hk.2) (.slice Ao87 t174.length co87)) (fun _ h_ => h_.1))) hb); have n3_ := Aside0.mk (Kd.R_below (by (with_reducible repeat (first | apply Kd.R_alloc | apply Kd.R_drewN | apply Kd.R_drew)); exact (Kd.R_mono (Kd.R_far (p := ⟨gb178, 2, none⟩) (Kd.R_far (p := ⟨gb178, 1, none⟩) (Kd.R_far (p := ⟨gb178, 0, none⟩) (Kd.R_types HO176.out BK178.out (by decide)) (fun _ hk => hk.2) (.int .i64 t172)) (fun _ hk => hk.2) (.string t173)) (fun _ hk => hk.2) (.slice Ao87 t174.length co87)) (fun _ h_ => h_.1))) hb); have n4_ := Aside0.mk (kb BK171.out hb); have n5_ := Aside0.mk (blk_below (g := gb178) (o := .cells #[.int .i64 t172, .string t173, .slice Ao87 t174.length co87] 28 (0, 0)) (by (with_reducible repeat (first | refine blk_drewN ?_ _ | refine blk_drew ?_ | refine blk_alloc ?_ _)); refine blk_put (cs := #[.int .i64 t172, .string t173, .slice none 0 0]) ?_ 2 _ rfl; (with_reducible repeat (first | refine blk_drewN ?_ _ | refine blk_drew ?_ | refine blk_alloc ?_ _)); refine blk_put (cs := #[.int .i64 t172, .string (⟨#[]⟩ : ByteArray), .slice none 0 0]) ?_ 1 _ rfl; (with_reducible repeat (first | refine blk_drewN ?_ _ | refine blk_drew ?_ | refine blk_alloc ?_ _)); refine blk_put (cs := #[.int .i64 0, .string (⟨#[]⟩ : ByteArray), .slice none 0 0]) ?_ 0 _ rfl; (with_reducible repeat (first | refine blk_drewN ?_ _ | refine blk_drew ?_ | refine blk_alloc ?_ _)); exact BK178.out) hb); have n6_ := Aside0.mk (below_step bl hb); have m0_ := Aside0.mk (MapK.below (mkk HM.out) hb); clear HM; have HM := m0_; clear m0_; clear HO_6; clear HO_7; clear HO_21; clear HO176; clear BK171; clear BK178; clear HB; have HO_6 := n0_; have HO_7 := n1_; have HO_21 := n2_; have HO176 := n3_; have BK171 := n4_; have BK178 := n5_; have HB := n6_; clear n0_ n1_ n2_ n3_ n4_ n5_ n6_; (try clear hb); (try clear hb2); (try clear hk); (try clear hi); have hcz89_0 : w88.cell? ⟨gb171, 0, none⟩ = some (.int .i64 ((rd_T66 t167 x23_1).f0)) := (blk_cell BK171.out 0).trans rfl; have hcz89_1 : w88.cell? ⟨gb171, 1, none⟩ = some (.string ((rd_T66 t167 x23_1).f1)) := (blk_cell BK171.out 1).trans rfl; have hcz89_2 : w88.cell? ⟨gb171, 2, none⟩ = some (.bool ((rd_T66 t167 x23_1).f2)) := (blk_cell BK171.out 2).trans rfl; have hfz89_0 := blk_frozen BK171.out 0; have hfz89_1 := blk_frozen BK171.out 1; have hfz89_2 := blk_frozen BK171.out 2) | ((with_reducible refine gate_builtin (b := .append) (xs := #[.tmp 50, .tmp 55]) rfl ?_); at_builtin; refine Kd.R_append k48 (w0 := w) w.heap.size rfl (.tmp 50) (.tmp 55) 30 48 (.agg #[(.int .i64 0), (.int .i64 0)]) 16 rfl Tryd.underlying30 info48 rfl (by decide) (by omega) u7 x7_1 (⟨(rd_T66 t167 x23_1).f0, t177⟩ : S48) [.int .i64 ((rd_T66 t167 x23_1).f0), .int .i64 t177] (fun _ => True) (fun _ => False) rfl rfl ?aP (fun _ hk => hk.elim) ?aF ?aO ?aB ?aS ?aL ?_; (case aP => exact k48_mkM _ _ _ (⟨(rd_T66 t167 x23_1).f0, t177⟩ : S48)); (case aB => exact bl); (case aF => exact (fun _ _ => trivial)); (case aO => exact (kr HO_7.out)); (case aS => exact (below_size bl)); (case aL => have := LMc80.out; omega); intro v197 w90 ho hb hg hat; rw [← Ny196.out] at ho; have n0_ := Aside0.mk (Kd.S_over' (by (with_reducible repeat (first | apply Kd.S_alloc | apply Kd.S_drewN | apply Kd.S_drew)); exact HO_6.out) (Kd.R_typed (kr HO_7.out)) (by decide) hg); have n1_ := Aside0.mk (Kd.R_over' (kr HO_21.out) (Kd.R_typed (kr HO_7.out)) (by decide) hg); have n2_ := Aside0.mk (blk_grown (g := gb171) (o := .cells #[.int .i64 ((rd_T66 t167 x23_1).f0), .string ((rd_T66 t167 x23_1).f1), .bool ((rd_T66 t167 x23_1).f2)] 66 (0, 0)) (bk BK171.out) hg (Kd.R_ne HO_7.out BK171.out (by decide))); have n3_ := Aside0.mk (Kd.R_over' (kr HO176.out) (Kd.R_typed (kr HO_7.out)) (by decide) hg); have n4_ := Aside0.mk (blk_grown (g := gb178) (o := .cells #[.int .i64 t172, .string t173, .slice Ao87 t174.length co87] 28 (0, 0)) (bk BK178.out) hg (Kd.R_ne HO_7.out BK178.out (by decide))); have n5_ := Aside0.mk (hb); have n6_ := Aside0.mk (ho); have m0_ := Aside0.mk (MapK.grown (mkk HM.out) hg (Kd.R_typed (kr HO_7.out))); clear HM; have HM := m0_; clear m0_; clear HO_6; clear HO_21; clear BK171; clear HO176; clear BK178; clear HB; clear HO_7; have HO_6 := n0_; have HO_21 := n1_; have BK171 := n2_; have HO176 := n3_; have BK178 := n4_; have HB := n5_; have HO198 := n6_; clear n0_ n1_ n2_ n3_ n4_ n5_ n6_; clear ho hb hg hat))
         go_roundg k1
         case measure => have := HK1.out; omega
         case rel => exact ⟨(x6_1), (y196), (wrap64 (x23_1 + 1)), (by first | rfl | (simp; done) | (simp [*]; done)), H', ⟨by have := HK1.out; omega⟩, ⟨by (with_reducible repeat (first | apply Kd.S_alloc | apply Kd.S_drewN | apply Kd.S_drew)); exact Kd.S_mono HO_6.out (fun _ hk => trivial)⟩, ⟨by (with_reducible repeat (first | apply Kd.R_alloc | apply Kd.R_drewN | apply Kd.R_drew)); exact HO198.out⟩, ⟨by (with_reducible repeat (first | apply Kd.R_alloc | apply Kd.R_drewN | apply Kd.R_drew)); exact Kd.R_mono HO_21.out (fun _ hk => trivial)⟩, ⟨by repeat (first | (with_reducible first | exact HB.out | apply below_alloc | apply pw_below_drewN | apply below_drew1 | refine below_set ?_ GE171.out | refine below_set ?_ GE178.out) | exact HB.out)⟩, ⟨mkk HM.out⟩⟩
        ·rw [if_neg c80] at H
         exact absurd H (by simp)
      ·rw [if_neg c11] at H
       exact absurd H (by simp)
     ·rw [if_neg c10] at H
      exact absurd H (by simp)
    ·rw [if_neg c9] at H
     have c9b0 : decide (x23_1 < (t167.length : Int)) = false := decide_eq_false c9
     clear c9
     simp only [Option.some.injEq, Prod.mk.injEq] at H
     obtain ⟨rfl, rfl⟩ := H
     go_wp2
     go_ret2
     exact ⟨_, _, by first | rfl | (simp [errW_none, errW_some] <;> rfl) | (simp [*, errW_none, errW_some] <;> rfl), by (with_reducible repeat (first | apply Kd.S_alloc | apply Kd.S_drewN | apply Kd.S_drew)); exact HO_6.out, by (with_reducible repeat (first | apply Kd.R_alloc | apply Kd.R_drewN | apply Kd.R_drew)); exact HO_7.out, by repeat (first | (with_reducible first | exact HB.out | apply below_alloc | apply pw_below_drewN | apply below_drew1) | exact HB.out)⟩

/-! ### slices_Equal_lines_Fault_lines_Fault: function 22 -/
def slices_Equal_lines_Fault_lines_Fault.l0 : Nat → List (S48) → List (S48) → Int → Int → Option (Bool)
  | 0, _, _, _, _ => none
  | k + 1, x0, x1, x12, x13 => if x13 < x12 then (if 0 ≤ x13 then (if x13 < (x0.length : Int) then (if x13 < (x1.length : Int) then (if (!(((rd_T48 x0 x13).f0) == ((rd_T48 x1 x13).f0)) || (!(((rd_T48 x0 x13).f1) == ((rd_T48 x1 x13).f1)))) = true then (some false) else (slices_Equal_lines_Fault_lines_Fault.l0 k x0 x1 x12 (wrap64 (x13 + 1)))) else (none)) else (none)) else (none)) else (some true)
def slices_Equal_lines_Fault_lines_Fault.f (k : Nat) (l0 : List (S48)) (l1 : List (S48)) : Option (Bool) := if (l0.length : Int) = (l1.length : Int) then (slices_Equal_lines_Fault_lines_Fault.l0 k l0 l1 (l0.length : Int) 0) else (some false)
theorem slices_Equal_lines_Fault_lines_Fault.mono_l : ∀ k, (∀ y0 y1 y2 y3, LeO (slices_Equal_lines_Fault_lines_Fault.l0 k y0 y1 y2 y3) (slices_Equal_lines_Fault_lines_Fault.l0 (k + 1) y0 y1 y2 y3))
  | 0 => fun _ _ _ _ r h => by simp [slices_Equal_lines_Fault_lines_Fault.l0] at h
  | k + 1 => by
    have ih0 := slices_Equal_lines_Fault_lines_Fault.mono_l k
    · intro y0 y1 y2 y3
      unfold slices_Equal_lines_Fault_lines_Fault.l0
      repeat' first
      | (with_reducible exact ih0 _ _ _ _)
      | (with_reducible exact LeO.refl _)
      | (with_reducible exact LeO.none _)
      | (with_reducible refine LeO.ite ?_ ?_)
      | (with_reducible refine LeO.bind ?_ (fun _ => ?_))
      | exact ih0 _ _ _ _
      | exact LeO.none _
      | refine LeO.ite ?_ ?_
      | refine LeO.bind ?_ (fun _ => ?_)
theorem slices_Equal_lines_Fault_lines_Fault.mono : ∀ a0 a1 k, LeO (slices_Equal_lines_Fault_lines_Fault.f k a0 a1) (slices_Equal_lines_Fault_lines_Fault.f (k + 1) a0 a1) := by
  intro a0 a1 k
  have ih0 := slices_Equal_lines_Fault_lines_Fault.mono_l k
  unfold slices_Equal_lines_Fault_lines_Fault.f
  repeat' first
      | (with_reducible exact ih0 _ _ _ _)
      | (with_reducible exact LeO.refl _)
      | (with_reducible exact LeO.none _)
      | (with_reducible refine LeO.ite ?_ ?_)
      | (with_reducible refine LeO.bind ?_ (fun _ => ?_))
      | exact ih0 _ _ _ _
      | exact LeO.none _
      | refine LeO.ite ?_ ?_
      | refine LeO.bind ?_ (fun _ => ?_)
set_option maxHeartbeats 8000000 in
set_option maxRecDepth 100000 in
theorem slices_Equal_lines_Fault_lines_Fault.calls (k : Nat) (A0 : Option Addr) (c0 : Nat) (l0 : List (S48)) (A1 : Option Addr) (c1 : Nat) (l1 : List (S48)) (r : Bool) (w : World) (hr0 : Kd.C k48 w A0 l0.length l0) (hc0 : l0.length ≤ c0) (hr1 : Kd.C k48 w A1 l1.length l1) (hc1 : l1.length ≤ c1) (h : slices_Equal_lines_Fault_lines_Fault.f k l0 l1 = some r) :
    Calls Tryd.prog 22 #[.slice A0 l0.length c0, .slice A1 l1.length c1] w fun e w' => e = .returned (.bool r) ∧ Drawn0 w w' := by
  have hu48 := Tryd.underlying48
  have HR0 := Aside0.mk hr0
  have HC0 := Aside0.mk hc0
  clear hr0 hc0
  have HR1 := Aside0.mk hr1
  have HC1 := Aside0.mk hc1
  clear hr1 hc1
  have H : (if (l0.length : Int) = (l1.length : Int) then (slices_Equal_lines_Fault_lines_Fault.l0 k l0 l1 (l0.length : Int) 0) else (some false)) = some r := h
  clear h
  by_cases c3 : (l0.length : Int) = (l1.length : Int)
  · rw [if_pos c3] at H
    have c3b0 : ((l0.length : Int) == (l1.length : Int)) = true := beq_iff_eq.mpr c3
    have c3b1 : ((l0.length : Int) != (l1.length : Int)) = false := bne_eq_false_iff_eq.mpr c3
    have c3b2 : (l0.length == l1.length) = true := by first | simpa using c3 | (simp at c3 ⊢; omega)
    clear c3
    have H' := Aside0.mk H
    clear H
    go_enter Tryd.func22, Tryd.ntmps22
    go_wp2
    repeat (go_quiet (fail); try go_wp2)
    go_loopg [13] k (fun kq v13 w' => ∃ (x13_1 : Int), v13 = .int .i64 x13_1 ∧ Aside0 (slices_Equal_lines_Fault_lines_Fault.l0 kq l0 l1 (l0.length : Int) x13_1 = some r) ∧ Aside0 (kq ≤ k) ∧ Drawn0 w w')
    case atStart => exact ⟨(0), (by first | rfl | (simp; done) | (simp [*]; done)), H', ⟨Nat.le_refl _⟩, by repeat (first | exact Drawn0.refl _ | apply Drawn0.step)⟩
    case round =>
      clear H'
      try clear c1
      try clear c2
      try clear p2
      try clear c3
      try clear c3b0
      try clear c3b1
      try clear c3b2
      obtain ⟨x13_1, rfl, HA, HK1, ⟨m1, rfl⟩⟩ := hrel
      cases gk with
      | zero => exact absurd HA.out (by simp [slices_Equal_lines_Fault_lines_Fault.l0])
      | succ k1 =>
        have H := HA.out
        clear HA
        simp only [slices_Equal_lines_Fault_lines_Fault.l0] at H
        by_cases c4 : x13_1 < (l0.length : Int)
        · rw [if_pos c4] at H
          have c4b0 : decide (x13_1 < (l0.length : Int)) = true := decide_eq_true c4
          clear c4
          by_cases c5 : 0 ≤ x13_1
          · rw [if_pos c5] at H
            have c5b0 : decide (0 ≤ x13_1) = true := decide_eq_true c5
            clear c5
            by_cases c6 : x13_1 < (l0.length : Int)
            · rw [if_pos c6] at H
              have c6b0 : decide (x13_1 < (l0.length : Int)) = true := decide_eq_true c6
              clear c6
              by_cases c7 : x13_1 < (l1.length : Int)
              · rw [if_pos c7] at H
                have c7b0 : decide (x13_1 < (l1.length : Int)) = true := decide_eq_true c7
                clear c7
                by_cases c8 : (!(((rd_T48 l0 x13_1).f0) == ((rd_T48 l1 x13_1).f0)) || (!(((rd_T48 l0 x13_1).f1) == ((rd_T48 l1 x13_1).f1)))) = true
                · rw [if_pos c8] at H
                  have c8b0 : (!(((rd_T48 l0 x13_1).f0) == ((rd_T48 l1 x13_1).f0)) || (!(((rd_T48 l0 x13_1).f1) == ((rd_T48 l1 x13_1).f1)))) = true := c8
                  clear c8
                  obtain rfl := Option.some.inj H
                  have p199 : 0 ≤ (x13_1 : Int) := of_decide_eq_true (by first | (with_reducible assumption) | assumption)
                  have q199 : x13_1 < (l0.length : Int) := of_decide_eq_true (by first | (with_reducible assumption) | assumption)
                  obtain ⟨ad199, e199, hx199_0, hx199_1⟩ := at_T48 HR0.out x13_1 p199 q199
                  cases e199
                  replace p199 := eq_true p199
                  replace q199 := eq_true q199
                  have p200 : 0 ≤ (x13_1 : Int) := of_decide_eq_true (by first | (with_reducible assumption) | assumption)
                  have q200 : x13_1 < (l1.length : Int) := of_decide_eq_true (by first | (with_reducible assumption) | assumption)
                  obtain ⟨ad200, e200, hx200_0, hx200_1⟩ := at_T48 HR1.out x13_1 p200 q200
                  cases e200
                  replace p200 := eq_true p200
                  replace q200 := eq_true q200
                  go_wp2
                  repeat (go_quiet (fail); try go_wp2)
                  go_ret
                  exact ⟨by first | rfl | (simp [bneNil]; done) | (simp; done) | (simp [*]; done), by repeat (first | exact Drawn0.refl _ | apply Drawn0.step)⟩
                · rw [if_neg c8] at H
                  have c8b0 : (!(((rd_T48 l0 x13_1).f0) == ((rd_T48 l1 x13_1).f0)) || (!(((rd_T48 l0 x13_1).f1) == ((rd_T48 l1 x13_1).f1)))) = false := by simpa using c8
                  clear c8
                  have H' := Aside0.mk H
                  clear H
                  have p199 : 0 ≤ (x13_1 : Int) := of_decide_eq_true (by first | (with_reducible assumption) | assumption)
                  have q199 : x13_1 < (l0.length : Int) := of_decide_eq_true (by first | (with_reducible assumption) | assumption)
                  obtain ⟨ad199, e199, hx199_0, hx199_1⟩ := at_T48 HR0.out x13_1 p199 q199
                  cases e199
                  replace p199 := eq_true p199
                  replace q199 := eq_true q199
                  have p200 : 0 ≤ (x13_1 : Int) := of_decide_eq_true (by first | (with_reducible assumption) | assumption)
                  have q200 : x13_1 < (l1.length : Int) := of_decide_eq_true (by first | (with_reducible assumption) | assumption)
                  obtain ⟨ad200, e200, hx200_0, hx200_1⟩ := at_T48 HR1.out x13_1 p200 q200
                  cases e200
                  replace p200 := eq_true p200
                  replace q200 := eq_true q200
                  go_wp2
                  repeat (go_quiet (fail); try go_wp2)
                  go_roundg k1
                  case measure => have := HK1.out; omega
                  case rel => exact ⟨(wrap64 (x13_1 + 1)), (by first | rfl | (simp; done) | (simp [*]; done)), H', ⟨by have := HK1.out; omega⟩, by repeat (first | exact Drawn0.refl _ | apply Drawn0.step)⟩
              · rw [if_neg c7] at H
                exact absurd H (by simp)
            · rw [if_neg c6] at H
              exact absurd H (by simp)
          · rw [if_neg c5] at H
            exact absurd H (by simp)
        · rw [if_neg c4] at H
          have c4b0 : decide (x13_1 < (l0.length : Int)) = false := decide_eq_false c4
          clear c4
          obtain rfl := Option.some.inj H
          go_wp2
          repeat (go_quiet (fail); try go_wp2)
          go_ret
          exact ⟨by first | rfl | (simp [bneNil]; done) | (simp; done) | (simp [*]; done), by repeat (first | exact Drawn0.refl _ | apply Drawn0.step)⟩
  · rw [if_neg c3] at H
    have c3b0 : ((l0.length : Int) == (l1.length : Int)) = false := beq_eq_false_iff_ne.mpr c3
    have c3b1 : ((l0.length : Int) != (l1.length : Int)) = true := bne_iff_ne.mpr c3
    have c3b2 : (l0.length == l1.length) = false := by first | simpa using c3 | (simp at c3 ⊢; omega)
    obtain rfl := Option.some.inj H
    go_enter Tryd.func22, Tryd.ntmps22
    go_wp2
    repeat (go_quiet (fail); try go_wp2)
    go_ret
    exact ⟨by first | rfl | (simp [bneNil]; done) | (simp; done) | (simp [*]; done), by repeat (first | exact Drawn0.refl _ | apply Drawn0.step)⟩

/-! ### postriderlaw13_wakes: function 14 -/
def postriderlaw13_wakes.f (k : Nat)  : Option (Bool) := (lines_Parse.f k (⟨#[97, 58, 32, 98, 44, 32, 34, 99, 44, 32, 100, 34]⟩ : ByteArray) true).bind fun bt201 => ((lines_Parse.f k (⟨#[97, 58, 32, 98, 10, 32, 44, 32, 99]⟩ : ByteArray) true).bind fun bt207 => ((lines_Parse.f k (⟨#[120, 10, 97, 58, 32, 98, 10, 65, 58, 32, 99]⟩ : ByteArray) true).bind fun bt213 => (if (bt201.1.length : Int) = 1 then (if (bt201.2.length : Int) = 0 then (if 0 < (bt201.1.length : Int) then (if ((rd_T28 bt201.1 0).f1).toList = ([97] : List UInt8) then ((slices_Equal_string_string.f k ((rd_T28 bt201.1 0).f2) (([(⟨#[98]⟩ : ByteArray), (⟨#[99, 44, 32, 100]⟩ : ByteArray)] : List ByteArray))).bind fun t224 => (if (bt207.1.length : Int) = 1 then (if (bt207.2.length : Int) = 0 then (if 0 < (bt207.1.length : Int) then ((slices_Equal_string_string.f k ((rd_T28 bt207.1 0).f2) (([(⟨#[98]⟩ : ByteArray), (⟨#[99]⟩ : ByteArray)] : List ByteArray))).bind fun t229 => (if t224 = true then (if t229 = true then (if (bt213.1.length : Int) = 1 then (if 0 < (bt213.1.length : Int) then (if ((rd_T28 bt213.1 0).f0) = 2 then ((slices_Equal_lines_Fault_lines_Fault.f k bt213.2 (([(⟨1, 5⟩ : S48), (⟨3, 9⟩ : S48)] : List (S48)))).bind fun t234 => (some t234)) else (some false)) else (none)) else (some false)) else (some false)) else (some false))) else (none)) else (if t224 = true then (some false) else (some false))) else (if t224 = true then (some false) else (some false)))) else (if (bt207.1.length : Int) = 1 then (if (bt207.2.length : Int) = 0 then (if 0 < (bt207.1.length : Int) then ((slices_Equal_string_string.f k ((rd_T28 bt207.1 0).f2) (([(⟨#[98]⟩ : ByteArray), (⟨#[99]⟩ : ByteArray)] : List ByteArray))).bind fun t239 => (some false)) else (none)) else (some false)) else (some false))) else (none)) else (if (bt207.1.length : Int) = 1 then (if (bt207.2.length : Int) = 0 then (if 0 < (bt207.1.length : Int) then ((slices_Equal_string_string.f k ((rd_T28 bt207.1 0).f2) (([(⟨#[98]⟩ : ByteArray), (⟨#[99]⟩ : ByteArray)] : List ByteArray))).bind fun t244 => (some false)) else (none)) else (some false)) else (some false))) else (if (bt207.1.length : Int) = 1 then (if (bt207.2.length : Int) = 0 then (if 0 < (bt207.1.length : Int) then ((slices_Equal_string_string.f k ((rd_T28 bt207.1 0).f2) (([(⟨#[98]⟩ : ByteArray), (⟨#[99]⟩ : ByteArray)] : List ByteArray))).bind fun t249 => (some false)) else (none)) else (some false)) else (some false)))))
theorem postriderlaw13_wakes.mono : ∀ k, LeO (postriderlaw13_wakes.f k ) (postriderlaw13_wakes.f (k + 1) ) := by
 intro  k
 unfold postriderlaw13_wakes.f
 repeat' first
   | (with_reducible exact lines_Parse.mono _ _ _)
   | (with_reducible exact slices_Equal_lines_Fault_lines_Fault.mono _ _ _)
   | (with_reducible exact slices_Equal_string_string.mono _ _ _)
   | (with_reducible exact LeO.refl _)
   | (with_reducible exact LeO.none _)
   | (with_reducible refine LeO.ite ?_ ?_)
   | (with_reducible refine LeO.bind ?_ (fun _ => ?_))
   | exact lines_Parse.mono _ _ _
   | exact slices_Equal_lines_Fault_lines_Fault.mono _ _ _
   | exact slices_Equal_string_string.mono _ _ _
   | exact LeO.none _
   | refine LeO.ite ?_ ?_
   | refine LeO.bind ?_ (fun _ => ?_)
set_option maxHeartbeats 8000000 in
set_option maxRecDepth 100000 in
theorem postriderlaw13_wakes.calls (k : Nat)  (r : Bool) (w : World) (hG : Glob w) (hT : r = true) (h : postriderlaw13_wakes.f k  = some r) :
  Calls Tryd.prog 14 #[] w fun e w' => e = .returned (.bool r) ∧ Below w.heap.size w w' := by
 have hu48 := Tryd.underlying48
 have HB := Aside0.mk (Below.refl w.heap.size w)
 have HG := Aside0.mk hG
 clear hG
 have HT_r := Aside0.mk hT
 clear hT
 have H : ((lines_Parse.f k (⟨#[97, 58, 32, 98, 44, 32, 34, 99, 44, 32, 100, 34]⟩ : ByteArray) true).bind fun bt201 => ((lines_Parse.f k (⟨#[97, 58, 32, 98, 10, 32, 44, 32, 99]⟩ : ByteArray) true).bind fun bt207 => ((lines_Parse.f k (⟨#[120, 10, 97, 58, 32, 98, 10, 65, 58, 32, 99]⟩ : ByteArray) true).bind fun bt213 => (if (bt201.1.length : Int) = 1 then (if (bt201.2.length : Int) = 0 then (if 0 < (bt201.1.length : Int) then (if ((rd_T28 bt201.1 0).f1).toList = ([97] : List UInt8) then ((slices_Equal_string_string.f k ((rd_T28 bt201.1 0).f2) (([(⟨#[98]⟩ : ByteArray), (⟨#[99, 44, 32, 100]⟩ : ByteArray)] : List ByteArray))).bind fun t224 => (if (bt207.1.length : Int) = 1 then (if (bt207.2.length : Int) = 0 then (if 0 < (bt207.1.length : Int) then ((slices_Equal_string_string.f k ((rd_T28 bt207.1 0).f2) (([(⟨#[98]⟩ : ByteArray), (⟨#[99]⟩ : ByteArray)] : List ByteArray))).bind fun t229 => (if t224 = true then (if t229 = true then (if (bt213.1.length : Int) = 1 then (if 0 < (bt213.1.length : Int) then (if ((rd_T28 bt213.1 0).f0) = 2 then ((slices_Equal_lines_Fault_lines_Fault.f k bt213.2 (([(⟨1, 5⟩ : S48), (⟨3, 9⟩ : S48)] : List (S48)))).bind fun t234 => (some t234)) else (some false)) else (none)) else (some false)) else (some false)) else (some false))) else (none)) else (if t224 = true then (some false) else (some false))) else (if t224 = true then (some false) else (some false)))) else (if (bt207.1.length : Int) = 1 then (if (bt207.2.length : Int) = 0 then (if 0 < (bt207.1.length : Int) then ((slices_Equal_string_string.f k ((rd_T28 bt207.1 0).f2) (([(⟨#[98]⟩ : ByteArray), (⟨#[99]⟩ : ByteArray)] : List ByteArray))).bind fun t239 => (some false)) else (none)) else (some false)) else (some false))) else (none)) else (if (bt207.1.length : Int) = 1 then (if (bt207.2.length : Int) = 0 then (if 0 < (bt207.1.length : Int) then ((slices_Equal_string_string.f k ((rd_T28 bt207.1 0).f2) (([(⟨#[98]⟩ : ByteArray), (⟨#[99]⟩ : ByteArray)] : List ByteArray))).bind fun t244 => (some false)) else (none)) else (some false)) else (some false))) else (if (bt207.1.length : Int) = 1 then (if (bt207.2.length : Int) = 0 then (if 0 < (bt207.1.length : Int) then ((slices_Equal_string_string.f k ((rd_T28 bt207.1 0).f2) (([(⟨#[98]⟩ : ByteArray), (⟨#[99]⟩ : ByteArray)] : List ByteArray))).bind fun t249 => (some false)) else (none)) else (some false)) else (some false)))))) = some r := h
 clear h
 replace H := Option.bind_eq_some_iff.mp H
 obtain ⟨⟨t201, t202⟩, A10, H⟩ := H
 replace H : ((lines_Parse.f k (⟨#[97, 58, 32, 98, 10, 32, 44, 32, 99]⟩ : ByteArray) true).bind fun bt207 => ((lines_Parse.f k (⟨#[120, 10, 97, 58, 32, 98, 10, 65, 58, 32, 99]⟩ : ByteArray) true).bind fun bt213 => (if (t201.length : Int) = 1 then (if (t202.length : Int) = 0 then (if 0 < (t201.length : Int) then (if ((rd_T28 t201 0).f1).toList = ([97] : List UInt8) then ((slices_Equal_string_string.f k ((rd_T28 t201 0).f2) (([(⟨#[98]⟩ : ByteArray), (⟨#[99, 44, 32, 100]⟩ : ByteArray)] : List ByteArray))).bind fun t224 => (if (bt207.1.length : Int) = 1 then (if (bt207.2.length : Int) = 0 then (if 0 < (bt207.1.length : Int) then ((slices_Equal_string_string.f k ((rd_T28 bt207.1 0).f2) (([(⟨#[98]⟩ : ByteArray), (⟨#[99]⟩ : ByteArray)] : List ByteArray))).bind fun t229 => (if t224 = true then (if t229 = true then (if (bt213.1.length : Int) = 1 then (if 0 < (bt213.1.length : Int) then (if ((rd_T28 bt213.1 0).f0) = 2 then ((slices_Equal_lines_Fault_lines_Fault.f k bt213.2 (([(⟨1, 5⟩ : S48), (⟨3, 9⟩ : S48)] : List (S48)))).bind fun t234 => (some t234)) else (some false)) else (none)) else (some false)) else (some false)) else (some false))) else (none)) else (if t224 = true then (some false) else (some false))) else (if t224 = true then (some false) else (some false)))) else (if (bt207.1.length : Int) = 1 then (if (bt207.2.length : Int) = 0 then (if 0 < (bt207.1.length : Int) then ((slices_Equal_string_string.f k ((rd_T28 bt207.1 0).f2) (([(⟨#[98]⟩ : ByteArray), (⟨#[99]⟩ : ByteArray)] : List ByteArray))).bind fun t239 => (some false)) else (none)) else (some false)) else (some false))) else (none)) else (if (bt207.1.length : Int) = 1 then (if (bt207.2.length : Int) = 0 then (if 0 < (bt207.1.length : Int) then ((slices_Equal_string_string.f k ((rd_T28 bt207.1 0).f2) (([(⟨#[98]⟩ : ByteArray), (⟨#[99]⟩ : ByteArray)] : List ByteArray))).bind fun t244 => (some false)) else (none)) else (some false)) else (some false))) else (if (bt207.1.length : Int) = 1 then (if (bt207.2.length : Int) = 0 then (if 0 < (bt207.1.length : Int) then ((slices_Equal_string_string.f k ((rd_T28 bt207.1 0).f2) (([(⟨#[98]⟩ : ByteArray), (⟨#[99]⟩ : ByteArray)] : List ByteArray))).bind fun t249 => (some false)) else (none)) else (some false)) else (some false))))) = some r := H
 have A1 := Aside0.mk A10
 clear A10
 replace H := Option.bind_eq_some_iff.mp H
 obtain ⟨⟨t207, t208⟩, A20, H⟩ := H
 replace H : ((lines_Parse.f k (⟨#[120, 10, 97, 58, 32, 98, 10, 65, 58, 32, 99]⟩ : ByteArray) true).bind fun bt213 => (if (t201.length : Int) = 1 then (if (t202.length : Int) = 0 then (if 0 < (t201.length : Int) then (if ((rd_T28 t201 0).f1).toList = ([97] : List UInt8) then ((slices_Equal_string_string.f k ((rd_T28 t201 0).f2) (([(⟨#[98]⟩ : ByteArray), (⟨#[99, 44, 32, 100]⟩ : ByteArray)] : List ByteArray))).bind fun t224 => (if (t207.length : Int) = 1 then (if (t208.length : Int) = 0 then (if 0 < (t207.length : Int) then ((slices_Equal_string_string.f k ((rd_T28 t207 0).f2) (([(⟨#[98]⟩ : ByteArray), (⟨#[99]⟩ : ByteArray)] : List ByteArray))).bind fun t229 => (if t224 = true then (if t229 = true then (if (bt213.1.length : Int) = 1 then (if 0 < (bt213.1.length : Int) then (if ((rd_T28 bt213.1 0).f0) = 2 then ((slices_Equal_lines_Fault_lines_Fault.f k bt213.2 (([(⟨1, 5⟩ : S48), (⟨3, 9⟩ : S48)] : List (S48)))).bind fun t234 => (some t234)) else (some false)) else (none)) else (some false)) else (some false)) else (some false))) else (none)) else (if t224 = true then (some false) else (some false))) else (if t224 = true then (some false) else (some false)))) else (if (t207.length : Int) = 1 then (if (t208.length : Int) = 0 then (if 0 < (t207.length : Int) then ((slices_Equal_string_string.f k ((rd_T28 t207 0).f2) (([(⟨#[98]⟩ : ByteArray), (⟨#[99]⟩ : ByteArray)] : List ByteArray))).bind fun t239 => (some false)) else (none)) else (some false)) else (some false))) else (none)) else (if (t207.length : Int) = 1 then (if (t208.length : Int) = 0 then (if 0 < (t207.length : Int) then ((slices_Equal_string_string.f k ((rd_T28 t207 0).f2) (([(⟨#[98]⟩ : ByteArray), (⟨#[99]⟩ : ByteArray)] : List ByteArray))).bind fun t244 => (some false)) else (none)) else (some false)) else (some false))) else (if (t207.length : Int) = 1 then (if (t208.length : Int) = 0 then (if 0 < (t207.length : Int) then ((slices_Equal_string_string.f k ((rd_T28 t207 0).f2) (([(⟨#[98]⟩ : ByteArray), (⟨#[99]⟩ : ByteArray)] : List ByteArray))).bind fun t249 => (some false)) else (none)) else (some false)) else (some false)))) = some r := H
 have A2 := Aside0.mk A20
 clear A20
 replace H := Option.bind_eq_some_iff.mp H
 obtain ⟨⟨t213, t214⟩, A30, H⟩ := H
 replace H : (if (t201.length : Int) = 1 then (if (t202.length : Int) = 0 then (if 0 < (t201.length : Int) then (if ((rd_T28 t201 0).f1).toList = ([97] : List UInt8) then ((slices_Equal_string_string.f k ((rd_T28 t201 0).f2) (([(⟨#[98]⟩ : ByteArray), (⟨#[99, 44, 32, 100]⟩ : ByteArray)] : List ByteArray))).bind fun t224 => (if (t207.length : Int) = 1 then (if (t208.length : Int) = 0 then (if 0 < (t207.length : Int) then ((slices_Equal_string_string.f k ((rd_T28 t207 0).f2) (([(⟨#[98]⟩ : ByteArray), (⟨#[99]⟩ : ByteArray)] : List ByteArray))).bind fun t229 => (if t224 = true then (if t229 = true then (if (t213.length : Int) = 1 then (if 0 < (t213.length : Int) then (if ((rd_T28 t213 0).f0) = 2 then ((slices_Equal_lines_Fault_lines_Fault.f k t214 (([(⟨1, 5⟩ : S48), (⟨3, 9⟩ : S48)] : List (S48)))).bind fun t234 => (some t234)) else (some false)) else (none)) else (some false)) else (some false)) else (some false))) else (none)) else (if t224 = true then (some false) else (some false))) else (if t224 = true then (some false) else (some false)))) else (if (t207.length : Int) = 1 then (if (t208.length : Int) = 0 then (if 0 < (t207.length : Int) then ((slices_Equal_string_string.f k ((rd_T28 t207 0).f2) (([(⟨#[98]⟩ : ByteArray), (⟨#[99]⟩ : ByteArray)] : List ByteArray))).bind fun t239 => (some false)) else (none)) else (some false)) else (some false))) else (none)) else (if (t207.length : Int) = 1 then (if (t208.length : Int) = 0 then (if 0 < (t207.length : Int) then ((slices_Equal_string_string.f k ((rd_T28 t207 0).f2) (([(⟨#[98]⟩ : ByteArray), (⟨#[99]⟩ : ByteArray)] : List ByteArray))).bind fun t244 => (some false)) else (none)) else (some false)) else (some false))) else (if (t207.length : Int) = 1 then (if (t208.length : Int) = 0 then (if 0 < (t207.length : Int) then ((slices_Equal_string_string.f k ((rd_T28 t207 0).f2) (([(⟨#[98]⟩ : ByteArray), (⟨#[99]⟩ : ByteArray)] : List ByteArray))).bind fun t249 => (some false)) else (none)) else (some false)) else (some false))) = some r := H
 have A3 := Aside0.mk A30
 clear A30
 by_cases c4 : (t201.length : Int) = 1
 ·rw [if_pos c4] at H
  have c4b0 : ((t201.length : Int) == 1) = true := beq_iff_eq.mpr c4
  have c4b1 : ((t201.length : Int) != 1) = false := bne_eq_false_iff_eq.mpr c4
  clear c4
  by_cases c5 : (t202.length : Int) = 0
  ·rw [if_pos c5] at H
   have c5b0 : ((t202.length : Int) == 0) = true := beq_iff_eq.mpr c5
   have c5b1 : ((t202.length : Int) != 0) = false := bne_eq_false_iff_eq.mpr c5
   clear c5
   by_cases c6 : 0 < (t201.length : Int)
   ·rw [if_pos c6] at H
    have c6b0 : decide (0 < (t201.length : Int)) = true := decide_eq_true c6
    have c6b1 : decide (0 < t201.length) = true := decide_eq_true (by omega)
    clear c6
    by_cases c7 : ((rd_T28 t201 0).f1).toList = ([97] : List UInt8)
    ·rw [if_pos c7] at H
     have c7b0 : (((rd_T28 t201 0).f1).toList == ([97] : List UInt8)) = true := beq_iff_eq.mpr c7
     have c7b1 : (((rd_T28 t201 0).f1).toList != ([97] : List UInt8)) = false := bne_eq_false_iff_eq.mpr c7
     clear c7
     obtain ⟨y221, hy221⟩ : ∃ y_ : List ByteArray, y_ = (([(⟨#[98]⟩ : ByteArray), (⟨#[99, 44, 32, 100]⟩ : ByteArray)] : List ByteArray)) := ⟨_, rfl⟩
     replace H : ((slices_Equal_string_string.f k ((rd_T28 t201 0).f2) y221).bind fun t224 => (if (t207.length : Int) = 1 then (if (t208.length : Int) = 0 then (if 0 < (t207.length : Int) then ((slices_Equal_string_string.f k ((rd_T28 t207 0).f2) (([(⟨#[98]⟩ : ByteArray), (⟨#[99]⟩ : ByteArray)] : List ByteArray))).bind fun t229 => (if t224 = true then (if t229 = true then (if (t213.length : Int) = 1 then (if 0 < (t213.length : Int) then (if ((rd_T28 t213 0).f0) = 2 then ((slices_Equal_lines_Fault_lines_Fault.f k t214 (([(⟨1, 5⟩ : S48), (⟨3, 9⟩ : S48)] : List (S48)))).bind fun t234 => (some t234)) else (some false)) else (none)) else (some false)) else (some false)) else (some false))) else (none)) else (if t224 = true then (some false) else (some false))) else (if t224 = true then (some false) else (some false)))) = some r := by first | (rw [hy221]; with_reducible exact H) | (have H2_ := (Option.bind_some _ _).symm.trans H; rw [hy221]; with_reducible exact H2_) | (have H2_ := (Option.bind_some _ _).symm.trans H; with_reducible exact H2_) | with_reducible exact H | (rw [hy221]; exact H) | exact H
     have Ny221 := Aside0.mk hy221
     clear hy221
     replace H := Option.bind_eq_some_iff.mp H
     obtain ⟨t224, A80, H⟩ := H
     replace H : (if (t207.length : Int) = 1 then (if (t208.length : Int) = 0 then (if 0 < (t207.length : Int) then ((slices_Equal_string_string.f k ((rd_T28 t207 0).f2) (([(⟨#[98]⟩ : ByteArray), (⟨#[99]⟩ : ByteArray)] : List ByteArray))).bind fun t229 => (if t224 = true then (if t229 = true then (if (t213.length : Int) = 1 then (if 0 < (t213.length : Int) then (if ((rd_T28 t213 0).f0) = 2 then ((slices_Equal_lines_Fault_lines_Fault.f k t214 (([(⟨1, 5⟩ : S48), (⟨3, 9⟩ : S48)] : List (S48)))).bind fun t234 => (some t234)) else (some false)) else (none)) else (some false)) else (some false)) else (some false))) else (none)) else (if t224 = true then (some false) else (some false))) else (if t224 = true then (some false) else (some false))) = some r := H
     have A8 := Aside0.mk A80
     clear A80
     by_cases c9 : (t207.length : Int) = 1
     ·rw [if_pos c9] at H
      have c9b0 : ((t207.length : Int) == 1) = true := beq_iff_eq.mpr c9
      have c9b1 : ((t207.length : Int) != 1) = false := bne_eq_false_iff_eq.mpr c9
      clear c9
      by_cases c10 : (t208.length : Int) = 0
      ·rw [if_pos c10] at H
       have c10b0 : ((t208.length : Int) == 0) = true := beq_iff_eq.mpr c10
       have c10b1 : ((t208.length : Int) != 0) = false := bne_eq_false_iff_eq.mpr c10
       clear c10
       by_cases c11 : 0 < (t207.length : Int)
       ·rw [if_pos c11] at H
        have c11b0 : decide (0 < (t207.length : Int)) = true := decide_eq_true c11
        have c11b1 : decide (0 < t207.length) = true := decide_eq_true (by omega)
        clear c11
        obtain ⟨y226, hy226⟩ : ∃ y_ : List ByteArray, y_ = (([(⟨#[98]⟩ : ByteArray), (⟨#[99]⟩ : ByteArray)] : List ByteArray)) := ⟨_, rfl⟩
        replace H : ((slices_Equal_string_string.f k ((rd_T28 t207 0).f2) y226).bind fun t229 => (if t224 = true then (if t229 = true then (if (t213.length : Int) = 1 then (if 0 < (t213.length : Int) then (if ((rd_T28 t213 0).f0) = 2 then ((slices_Equal_lines_Fault_lines_Fault.f k t214 (([(⟨1, 5⟩ : S48), (⟨3, 9⟩ : S48)] : List (S48)))).bind fun t234 => (some t234)) else (some false)) else (none)) else (some false)) else (some false)) else (some false))) = some r := by first | (rw [hy226]; with_reducible exact H) | (have H2_ := (Option.bind_some _ _).symm.trans H; rw [hy226]; with_reducible exact H2_) | (have H2_ := (Option.bind_some _ _).symm.trans H; with_reducible exact H2_) | with_reducible exact H | (rw [hy226]; exact H) | exact H
        have Ny226 := Aside0.mk hy226
        clear hy226
        replace H := Option.bind_eq_some_iff.mp H
        obtain ⟨t229, A120, H⟩ := H
        replace H : (if t224 = true then (if t229 = true then (if (t213.length : Int) = 1 then (if 0 < (t213.length : Int) then (if ((rd_T28 t213 0).f0) = 2 then ((slices_Equal_lines_Fault_lines_Fault.f k t214 (([(⟨1, 5⟩ : S48), (⟨3, 9⟩ : S48)] : List (S48)))).bind fun t234 => (some t234)) else (some false)) else (none)) else (some false)) else (some false)) else (some false)) = some r := H
        have A12 := Aside0.mk A120
        clear A120
        by_cases c13 : t224 = true
        ·subst c13
         have H1 : (if t229 = true then (if (t213.length : Int) = 1 then (if 0 < (t213.length : Int) then (if ((rd_T28 t213 0).f0) = 2 then ((slices_Equal_lines_Fault_lines_Fault.f k t214 (([(⟨1, 5⟩ : S48), (⟨3, 9⟩ : S48)] : List (S48)))).bind fun t234 => (some t234)) else (some false)) else (none)) else (some false)) else (some false)) = some r := by rw [if_pos rfl] at H; exact H
         clear H
         have H := H1
         clear H1
         by_cases c14 : t229 = true
         ·subst c14
          have H1 : (if (t213.length : Int) = 1 then (if 0 < (t213.length : Int) then (if ((rd_T28 t213 0).f0) = 2 then ((slices_Equal_lines_Fault_lines_Fault.f k t214 (([(⟨1, 5⟩ : S48), (⟨3, 9⟩ : S48)] : List (S48)))).bind fun t234 => (some t234)) else (some false)) else (none)) else (some false)) = some r := by rw [if_pos rfl] at H; exact H
          clear H
          have H := H1
          clear H1
          by_cases c15 : (t213.length : Int) = 1
          ·rw [if_pos c15] at H
           have c15b0 : ((t213.length : Int) == 1) = true := beq_iff_eq.mpr c15
           have c15b1 : ((t213.length : Int) != 1) = false := bne_eq_false_iff_eq.mpr c15
           clear c15
           by_cases c16 : 0 < (t213.length : Int)
           ·rw [if_pos c16] at H
            have c16b0 : decide (0 < (t213.length : Int)) = true := decide_eq_true c16
            have c16b1 : decide (0 < t213.length) = true := decide_eq_true (by omega)
            clear c16
            by_cases c17 : ((rd_T28 t213 0).f0) = 2
            ·rw [if_pos c17] at H
             have c17b0 : (((rd_T28 t213 0).f0) == 2) = true := beq_iff_eq.mpr c17
             have c17b1 : (((rd_T28 t213 0).f0) != 2) = false := bne_eq_false_iff_eq.mpr c17
             clear c17
             obtain ⟨y231, hy231⟩ : ∃ y_ : List (S48), y_ = (([(⟨1, 5⟩ : S48), (⟨3, 9⟩ : S48)] : List (S48))) := ⟨_, rfl⟩
             replace H : ((slices_Equal_lines_Fault_lines_Fault.f k t214 y231).bind fun t234 => (some t234)) = some r := by first | (rw [hy231]; with_reducible exact H) | (have H2_ := (Option.bind_some _ _).symm.trans H; rw [hy231]; with_reducible exact H2_) | (have H2_ := (Option.bind_some _ _).symm.trans H; with_reducible exact H2_) | with_reducible exact H | (rw [hy231]; exact H) | exact H
             have Ny231 := Aside0.mk hy231
             clear hy231
             replace H := Option.bind_eq_some_iff.mp H
             obtain ⟨t234, A180, H⟩ := H
             replace H : (some t234) = some r := H
             have A18 := Aside0.mk A180
             clear A180
             obtain rfl := Option.some.inj H
             go_enter Tryd.func14, Tryd.ntmps14
             go_wp2_with (first | ((with_reducible refine gate_callee (f := 9) rfl ?_); refine goesL_ (some 10) rfl rfl Tryd.func9 (by kernel_rfl) rfl #[.string (⟨#[97, 58, 32, 98, 44, 32, 34, 99, 44, 32, 100, 34]⟩ : ByteArray), .bool true] rfl ml ?_; (with_reducible refine (lines_Parse.calls k (⟨#[97, 58, 32, 98, 44, 32, 34, 99, 44, 32, 100, 34]⟩ : ByteArray) true t201 t202 _ ?side1 A1.out).mono ?_); (case side1 => exact Glob.below HG.out bl); rintro e w19 ⟨v203, v205, rfl, ho0, ho1, hb⟩; refine ⟨_, rfl, ?_⟩; have n0_ := Aside0.mk (Kd.S_lower ho0 (below_size bl)); have n1_ := Aside0.mk (Kd.R_lower ho1 (below_size bl)); have n2_ := Aside0.mk (below_step bl hb); clear HB; have HO204 := n0_; have HO206 := n1_; have HB := n2_; clear n0_ n1_ n2_; (try clear hb); (try clear hb2); (try clear hk); (try clear hi); (try clear ho0); (try clear ho1)) | ((with_reducible refine gate_callee (f := 9) rfl ?_); refine goesL_ (some 14) rfl rfl Tryd.func9 (by kernel_rfl) rfl #[.string (⟨#[97, 58, 32, 98, 10, 32, 44, 32, 99]⟩ : ByteArray), .bool true] rfl ml ?_; (with_reducible refine (lines_Parse.calls k (⟨#[97, 58, 32, 98, 10, 32, 44, 32, 99]⟩ : ByteArray) true t207 t208 _ ?side1 A2.out).mono ?_); (case side1 => exact Glob.below HG.out bl); rintro e w20 ⟨v209, v211, rfl, ho0, ho1, hb⟩; refine ⟨_, rfl, ?_⟩; have n0_ := Aside0.mk (Kd.S_elder' (by (with_reducible repeat (first | apply Kd.S_alloc | apply Kd.S_drewN | apply Kd.S_drew)); exact HO204.out) (Kd.S_base ho0) hb); have n1_ := Aside0.mk (Kd.R_elder' (kr HO206.out) (Kd.R_base ho1) hb); have n2_ := Aside0.mk (Kd.S_lower (Kd.S_new' ho0 (Kd.S_lt (by (with_reducible repeat (first | apply Kd.S_alloc | apply Kd.S_drewN | apply Kd.S_drew)); exact HO204.out))) (below_size bl)); have n3_ := Aside0.mk (Kd.R_lower (Kd.R_new' ho1 (Kd.R_lt (kr HO206.out))) (below_size bl)); have n4_ := Aside0.mk (below_step bl hb); clear HO204; clear HO206; clear HB; have HO204 := n0_; have HO206 := n1_; have HO210 := n2_; have HO212 := n3_; have HB := n4_; clear n0_ n1_ n2_ n3_ n4_; (try clear hb); (try clear hb2); (try clear hk); (try clear hi); (try clear ho0); (try clear ho1)) | ((with_reducible refine gate_callee (f := 9) rfl ?_); refine goesL_ (some 18) rfl rfl Tryd.func9 (by kernel_rfl) rfl #[.string (⟨#[120, 10, 97, 58, 32, 98, 10, 65, 58, 32, 99]⟩ : ByteArray), .bool true] rfl ml ?_; (with_reducible refine (lines_Parse.calls k (⟨#[120, 10, 97, 58, 32, 98, 10, 65, 58, 32, 99]⟩ : ByteArray) true t213 t214 _ ?side1 A3.out).mono ?_); (case side1 => exact Glob.below HG.out bl); rintro e w21 ⟨v215, v217, rfl, ho0, ho1, hb⟩; refine ⟨_, rfl, ?_⟩; have n0_ := Aside0.mk (Kd.S_elder' (by (with_reducible repeat (first | apply Kd.S_alloc | apply Kd.S_drewN | apply Kd.S_drew)); exact HO204.out) (Kd.S_base ho0) hb); have n1_ := Aside0.mk (Kd.R_elder' (kr HO206.out) (Kd.R_base ho1) hb); have n2_ := Aside0.mk (Kd.S_elder' (by (with_reducible repeat (first | apply Kd.S_alloc | apply Kd.S_drewN | apply Kd.S_drew)); exact HO210.out) (Kd.S_base ho0) hb); have n3_ := Aside0.mk (Kd.R_elder' (kr HO212.out) (Kd.R_base ho1) hb); have n4_ := Aside0.mk (Kd.S_lower (Kd.S_new' (Kd.S_new' ho0 (Kd.S_lt (by (with_reducible repeat (first | apply Kd.S_alloc | apply Kd.S_drewN | apply Kd.S_drew)); exact HO204.out))) (Kd.S_lt (by (with_reducible repeat (first | apply Kd.S_alloc | apply Kd.S_drewN | apply Kd.S_drew)); exact HO210.out))) (below_size bl)); have n5_ := Aside0.mk (Kd.R_lower (Kd.R_new' (Kd.R_new' ho1 (Kd.R_lt (kr HO206.out))) (Kd.R_lt (kr HO212.out))) (below_size bl)); have n6_ := Aside0.mk (below_step bl hb); clear HO204; clear HO206; clear HO210; clear HO212; clear HB; have HO204 := n0_; have HO206 := n1_; have HO210 := n2_; have HO212 := n3_; have HO216 := n4_; have HO218 := n5_; have HB := n6_; clear n0_ n1_ n2_ n3_ n4_ n5_ n6_; (try clear hb); (try clear hb2); (try clear hk); (try clear hi); (try clear ho0); (try clear ho1); obtain ⟨Ao22, co22, eo22⟩ := Kd.S_slice HO204.out; subst eo22; obtain ⟨Ao23, co23, eo23⟩ := Kd.R_slice HO206.out; subst eo23; have p219 : 0 ≤ (0 : Int) := (by omega); have q219 : 0 < (t201.length : Int) := od; obtain ⟨ad219, A219_2, c219_2, e219, hx219_0, hx219_1, hx219_2, hl219_2, hi219_2⟩ := at_T28 (Kd.S_reads' HO204.out).2.2 0 p219 q219; cases e219; obtain ⟨ce219, hce219, hMe219, hcc219⟩ := Kd.S_get HO204.out z28 0 p219 (by first | exact q219 | exact od | (have e_ := (Kd.S_reads' HO204.out).1; omega)); obtain ⟨ve219_2, rfl, ge219_2⟩ := k28_openM hMe219; have hv219_2 := hcc219 2 _ rfl; rw [add_field _ _ 2 (by omega)] at hv219_2; replace hv219_2 := Option.some.inj (hv219_2.symm.trans hx219_2); rw [hv219_2] at ge219_2; have HL219_2 := Aside0.mk (show Kd.R Kd.string 9 _ _ _ _ ((rd_T28 t201 0).f2) from ge219_2); clear hv219_2 ge219_2; clear hcc219 hce219; have qi219 : (0 < t201.length) = True := eq_true (by omega); (try rw [show ((0 : Int)).toNat = 0 from rfl] at hx219_0); (try rw [show 0 * 3 = 0 from rfl] at hx219_0); (try rw [Addr.add_zero'] at hx219_0); (try rw [show ((0 : Int)).toNat = 0 from rfl] at hx219_1); (try rw [show 0 * 3 = 0 from rfl] at hx219_1); (try rw [Addr.add_zero'] at hx219_1); (try rw [show ((0 : Int)).toNat = 0 from rfl] at hx219_2); (try rw [show 0 * 3 = 0 from rfl] at hx219_2); (try rw [Addr.add_zero'] at hx219_2); have HR219_2 := Aside0.mk hi219_2; have HC219_2 := Aside0.mk hl219_2; clear hi219_2 hl219_2; replace p219 := eq_true p219; replace q219 := eq_true q219; have p220 : 0 ≤ (0 : Int) := (by omega); have q220 : 0 < (t201.length : Int) := od; obtain ⟨ad220, A220_2, c220_2, e220, hx220_0, hx220_1, hx220_2, hl220_2, hi220_2⟩ := at_T28 (Kd.S_reads' HO204.out).2.2 0 p220 q220; obtain rfl : ad219 = ad220 := (by injection e220); obtain ⟨ce220, hce220, hMe220, hcc220⟩ := Kd.S_get HO204.out z28 0 p220 (by first | exact q220 | exact od | (have e_ := (Kd.S_reads' HO204.out).1; omega)); obtain ⟨ve220_2, rfl, ge220_2⟩ := k28_openM hMe220; have hv220_2 := hcc220 2 _ rfl; rw [add_field _ _ 2 (by omega)] at hv220_2; replace hv220_2 := Option.some.inj (hv220_2.symm.trans hx220_2); rw [hv220_2] at ge220_2; have HL220_2 := Aside0.mk (show Kd.R Kd.string 9 _ _ _ _ ((rd_T28 t201 0).f2) from ge220_2); clear hv220_2 ge220_2; clear hcc220 hce220; have qi220 : (0 < t201.length) = True := eq_true (by omega); (try rw [show ((0 : Int)).toNat = 0 from rfl] at hx220_0); (try rw [show 0 * 3 = 0 from rfl] at hx220_0); (try rw [Addr.add_zero'] at hx220_0); (try rw [show ((0 : Int)).toNat = 0 from rfl] at hx220_1); (try rw [show 0 * 3 = 0 from rfl] at hx220_1); (try rw [Addr.add_zero'] at hx220_1); (try rw [show ((0 : Int)).toNat = 0 from rfl] at hx220_2); (try rw [show 0 * 3 = 0 from rfl] at hx220_2); (try rw [Addr.add_zero'] at hx220_2); have HR220_2 := Aside0.mk hi220_2; have HC220_2 := Aside0.mk hl220_2; clear hi220_2 hl220_2; replace p220 := eq_true p220; replace q220 := eq_true q220; have ea_ := Option.some.inj (hx219_2.symm.trans hx220_2); injection ea_ with ea_ en_ ec_; subst ea_; subst ec_; clear en_) | ((with_reducible refine gate_dst (N := 41) rfl ?_); (try (refine gate_guard (by rfl) ?_; dsimp only)); refine Kd.R_lit Kd.string _ 9 ?hg (N := 41) ?hd (xs := ([(⟨#[98]⟩ : ByteArray), (⟨#[99, 44, 32, 100]⟩ : ByteArray)] : List ByteArray)) (inner := [.string (⟨#[98]⟩ : ByteArray), .string (⟨#[99, 44, 32, 100]⟩ : ByteArray)]) (ok := fun _ => True) (okp := fun _ => True) ?hr ?hp (fun _ hk => hk) trivial (Below.refl _ _) (Nat.le_refl _) (by simp) ?_; (case hd => rfl); (case hg => rfl); (case hr => first | (go_simp; done) | (go_simp; rfl)); (case hp => exact (Reps.one (show Kd.M Kd.string _ _ _ (⟨#[98]⟩ : ByteArray) [.string (⟨#[98]⟩ : ByteArray)] from rfl) (Reps.one (show Kd.M Kd.string _ _ _ (⟨#[99, 44, 32, 100]⟩ : ByteArray) [.string (⟨#[99, 44, 32, 100]⟩ : ByteArray)] from rfl) (Reps.none _ _)))); intro v222 w24 ho25 hb hg_ hnew_; clear hg_ hnew_; (first | rw [← Ny221.out] at ho25 | (simp only [Int.reduceToNat] at ho25; rw [← Ny221.out] at ho25)); have n0_ := Aside0.mk (Kd.S_elder' (by (with_reducible repeat (first | apply Kd.S_alloc | apply Kd.S_drewN | apply Kd.S_drew)); exact HO204.out) (Kd.R_base ho25) hb); have n1_ := Aside0.mk (Kd.R_below (kr HO206.out) hb); have n2_ := Aside0.mk (Kd.S_elder' (by (with_reducible repeat (first | apply Kd.S_alloc | apply Kd.S_drewN | apply Kd.S_drew)); exact HO210.out) (Kd.R_base ho25) hb); have n3_ := Aside0.mk (Kd.R_below (kr HO212.out) hb); have n4_ := Aside0.mk (Kd.S_elder' (by (with_reducible repeat (first | apply Kd.S_alloc | apply Kd.S_drewN | apply Kd.S_drew)); exact HO216.out) (Kd.R_base ho25) hb); have n5_ := Aside0.mk (Kd.R_below (kr HO218.out) hb); have n6_ := Aside0.mk (Kd.R_elder' (kr HL219_2.out) (Kd.R_base ho25) hb); have n7_ := Aside0.mk (Kd.R_elder' (kr HL220_2.out) (Kd.R_base ho25) hb); have n8_ := Aside0.mk (Kd.R_lower (Kd.R_new' (Kd.R_new' ho25 (Kd.R_lt (kr HL219_2.out))) (Kd.R_lt (kr HL220_2.out))) (below_size bl)); have n9_ := Aside0.mk (Kd.C_below (by repeat (first | (with_reducible exact HR219_2.out) | (with_reducible refine Kd.C_alloc ?_ _) | (with_reducible refine Kd.C_drewN ?_ _) | (with_reducible refine Kd.C_drew ?_) | exact HR219_2.out)) hb); have n10_ := Aside0.mk (Kd.C_below (by repeat (first | (with_reducible exact HR220_2.out) | (with_reducible refine Kd.C_alloc ?_ _) | (with_reducible refine Kd.C_drewN ?_ _) | (with_reducible refine Kd.C_drew ?_) | exact HR220_2.out)) hb); have n11_ := Aside0.mk (below_step bl hb); clear HO204; clear HO206; clear HO210; clear HO212; clear HO216; clear HO218; clear HL219_2; clear HL220_2; clear HR219_2; clear HR220_2; clear HB; have HO204 := n0_; have HO206 := n1_; have HO210 := n2_; have HO212 := n3_; have HO216 := n4_; have HO218 := n5_; have HL219_2 := n6_; have HL220_2 := n7_; have HO223 := n8_; have HR219_2 := n9_; have HR220_2 := n10_; have HB := n11_; clear n0_ n1_ n2_ n3_ n4_ n5_ n6_ n7_ n8_ n9_ n10_ n11_; clear hb ho25; obtain ⟨Ao26, co26, eo26⟩ := Kd.R_slice HO223.out; subst eo26) | (go_at_call 12; (with_reducible refine (slices_Equal_string_string.calls k _ _ ((rd_T28 t201 0).f2) _ _ y221 true _ ?side1 ?side2 ?side3 ?side4 A8.out).mono ?_); (case side1 => repeat (first | exact (by repeat (first | (with_reducible exact HR220_2.out) | (with_reducible refine Kd.C_alloc ?_ _) | (with_reducible refine Kd.C_drewN ?_ _) | (with_reducible refine Kd.C_drew ?_) | exact HR220_2.out)) | (with_reducible refine Kd.C_alloc ?_ _) | (with_reducible refine Kd.C_drewN ?_ _) | (with_reducible refine Kd.C_drew ?_))); (case side2 => exact HC220_2.out); (case side3 => repeat (first | exact (Kd.R_reads' HO223.out).2.2 | (with_reducible refine Kd.C_alloc ?_ _) | (with_reducible refine Kd.C_drewN ?_ _) | (with_reducible refine Kd.C_drew ?_))); (case side4 => exact (Kd.R_reads' HO223.out).2.1); rintro e w' ⟨rfl, ⟨nd, rfl⟩⟩; obtain ⟨Ao27, co27, eo27⟩ := Kd.S_slice HO210.out; subst eo27; obtain ⟨Ao28, co28, eo28⟩ := Kd.R_slice HO212.out; subst eo28; have p225 : 0 ≤ (0 : Int) := (by omega); have q225 : 0 < (t207.length : Int) := od; obtain ⟨ad225, A225_2, c225_2, e225, hx225_0, hx225_1, hx225_2, hl225_2, hi225_2⟩ := at_T28 (Kd.S_reads' HO210.out).2.2 0 p225 q225; cases e225; obtain ⟨ce225, hce225, hMe225, hcc225⟩ := Kd.S_get HO210.out z28 0 p225 (by first | exact q225 | exact od | (have e_ := (Kd.S_reads' HO210.out).1; omega)); obtain ⟨ve225_2, rfl, ge225_2⟩ := k28_openM hMe225; have hv225_2 := hcc225 2 _ rfl; rw [add_field _ _ 2 (by omega)] at hv225_2; replace hv225_2 := Option.some.inj (hv225_2.symm.trans hx225_2); rw [hv225_2] at ge225_2; have HL225_2 := Aside0.mk (show Kd.R Kd.string 9 _ _ _ _ ((rd_T28 t207 0).f2) from ge225_2); clear hv225_2 ge225_2; clear hcc225 hce225; have qi225 : (0 < t207.length) = True := eq_true (by omega); (try rw [show ((0 : Int)).toNat = 0 from rfl] at hx225_0); (try rw [show 0 * 3 = 0 from rfl] at hx225_0); (try rw [Addr.add_zero'] at hx225_0); (try rw [show ((0 : Int)).toNat = 0 from rfl] at hx225_1); (try rw [show 0 * 3 = 0 from rfl] at hx225_1); (try rw [Addr.add_zero'] at hx225_1); (try rw [show ((0 : Int)).toNat = 0 from rfl] at hx225_2); (try rw [show 0 * 3 = 0 from rfl] at hx225_2); (try rw [Addr.add_zero'] at hx225_2); have HR225_2 := Aside0.mk hi225_2; have HC225_2 := Aside0.mk hl225_2; clear hi225_2 hl225_2; replace p225 := eq_true p225; replace q225 := eq_true q225) | ((with_reducible refine gate_dst (N := 57) rfl ?_); (try (refine gate_guard (by rfl) ?_; dsimp only)); refine Kd.R_lit Kd.string _ 9 ?hg (N := 57) ?hd (xs := ([(⟨#[98]⟩ : ByteArray), (⟨#[99]⟩ : ByteArray)] : List ByteArray)) (inner := [.string (⟨#[98]⟩ : ByteArray), .string (⟨#[99]⟩ : ByteArray)]) (ok := fun _ => True) (okp := fun _ => True) ?hr ?hp (fun _ hk => hk) trivial (Below.refl _ _) (Nat.le_refl _) (by simp) ?_; (case hd => rfl); (case hg => rfl); (case hr => first | (go_simp; done) | (go_simp; rfl)); (case hp => exact (Reps.one (show Kd.M Kd.string _ _ _ (⟨#[98]⟩ : ByteArray) [.string (⟨#[98]⟩ : ByteArray)] from rfl) (Reps.one (show Kd.M Kd.string _ _ _ (⟨#[99]⟩ : ByteArray) [.string (⟨#[99]⟩ : ByteArray)] from rfl) (Reps.none _ _)))); intro v227 w29 ho30 hb hg_ hnew_; clear hg_ hnew_; (first | rw [← Ny226.out] at ho30 | (simp only [Int.reduceToNat] at ho30; rw [← Ny226.out] at ho30)); have n0_ := Aside0.mk (Kd.S_elder' (by (with_reducible repeat (first | apply Kd.S_alloc | apply Kd.S_drewN | apply Kd.S_drew)); exact HO204.out) (Kd.R_base ho30) hb); have n1_ := Aside0.mk (Kd.R_below (kr HO206.out) hb); have n2_ := Aside0.mk (Kd.S_elder' (by (with_reducible repeat (first | apply Kd.S_alloc | apply Kd.S_drewN | apply Kd.S_drew)); exact HO210.out) (Kd.R_base ho30) hb); have n3_ := Aside0.mk (Kd.R_below (kr HO212.out) hb); have n4_ := Aside0.mk (Kd.S_elder' (by (with_reducible repeat (first | apply Kd.S_alloc | apply Kd.S_drewN | apply Kd.S_drew)); exact HO216.out) (Kd.R_base ho30) hb); have n5_ := Aside0.mk (Kd.R_below (kr HO218.out) hb); have n6_ := Aside0.mk (Kd.R_elder' (kr HL219_2.out) (Kd.R_base ho30) hb); have n7_ := Aside0.mk (Kd.R_elder' (kr HL220_2.out) (Kd.R_base ho30) hb); have n8_ := Aside0.mk (Kd.R_elder' (kr HO223.out) (Kd.R_base ho30) hb); have n9_ := Aside0.mk (Kd.R_elder' (kr HL225_2.out) (Kd.R_base ho30) hb); have n10_ := Aside0.mk (Kd.R_lower (Kd.R_new' (Kd.R_new' (Kd.R_new' (Kd.R_new' ho30 (Kd.R_lt (kr HL219_2.out))) (Kd.R_lt (kr HL220_2.out))) (Kd.R_lt (kr HO223.out))) (Kd.R_lt (kr HL225_2.out))) (below_size bl)); have n11_ := Aside0.mk (Kd.C_below (by repeat (first | (with_reducible exact HR219_2.out) | (with_reducible refine Kd.C_alloc ?_ _) | (with_reducible refine Kd.C_drewN ?_ _) | (with_reducible refine Kd.C_drew ?_) | exact HR219_2.out)) hb); have n12_ := Aside0.mk (Kd.C_below (by repeat (first | (with_reducible exact HR220_2.out) | (with_reducible refine Kd.C_alloc ?_ _) | (with_reducible refine Kd.C_drewN ?_ _) | (with_reducible refine Kd.C_drew ?_) | exact HR220_2.out)) hb); have n13_ := Aside0.mk (Kd.C_below (by repeat (first | (with_reducible exact HR225_2.out) | (with_reducible refine Kd.C_alloc ?_ _) | (with_reducible refine Kd.C_drewN ?_ _) | (with_reducible refine Kd.C_drew ?_) | exact HR225_2.out)) hb); have n14_ := Aside0.mk (below_step bl hb); clear HO204; clear HO206; clear HO210; clear HO212; clear HO216; clear HO218; clear HL219_2; clear HL220_2; clear HO223; clear HL225_2; clear HR219_2; clear HR220_2; clear HR225_2; clear HB; have HO204 := n0_; have HO206 := n1_; have HO210 := n2_; have HO212 := n3_; have HO216 := n4_; have HO218 := n5_; have HL219_2 := n6_; have HL220_2 := n7_; have HO223 := n8_; have HL225_2 := n9_; have HO228 := n10_; have HR219_2 := n11_; have HR220_2 := n12_; have HR225_2 := n13_; have HB := n14_; clear n0_ n1_ n2_ n3_ n4_ n5_ n6_ n7_ n8_ n9_ n10_ n11_ n12_ n13_ n14_; clear hb ho30; obtain ⟨Ao31, co31, eo31⟩ := Kd.R_slice HO228.out; subst eo31) | (go_at_call 12; (with_reducible refine (slices_Equal_string_string.calls k _ _ ((rd_T28 t207 0).f2) _ _ y226 true _ ?side1 ?side2 ?side3 ?side4 A12.out).mono ?_); (case side1 => repeat (first | exact (by repeat (first | (with_reducible exact HR225_2.out) | (with_reducible refine Kd.C_alloc ?_ _) | (with_reducible refine Kd.C_drewN ?_ _) | (with_reducible refine Kd.C_drew ?_) | exact HR225_2.out)) | (with_reducible refine Kd.C_alloc ?_ _) | (with_reducible refine Kd.C_drewN ?_ _) | (with_reducible refine Kd.C_drew ?_))); (case side2 => exact HC225_2.out); (case side3 => repeat (first | exact (Kd.R_reads' HO228.out).2.2 | (with_reducible refine Kd.C_alloc ?_ _) | (with_reducible refine Kd.C_drewN ?_ _) | (with_reducible refine Kd.C_drew ?_))); (case side4 => exact (Kd.R_reads' HO228.out).2.1); rintro e w' ⟨rfl, ⟨nd, rfl⟩⟩; obtain ⟨Ao32, co32, eo32⟩ := Kd.S_slice HO216.out; subst eo32; have p230 : 0 ≤ (0 : Int) := (by omega); have q230 : 0 < (t213.length : Int) := od; obtain ⟨ad230, A230_2, c230_2, e230, hx230_0, hx230_1, hx230_2, hl230_2, hi230_2⟩ := at_T28 (Kd.S_reads' HO216.out).2.2 0 p230 q230; cases e230; obtain ⟨ce230, hce230, hMe230, hcc230⟩ := Kd.S_get HO216.out z28 0 p230 (by first | exact q230 | exact od | (have e_ := (Kd.S_reads' HO216.out).1; omega)); obtain ⟨ve230_2, rfl, ge230_2⟩ := k28_openM hMe230; have hv230_2 := hcc230 2 _ rfl; rw [add_field _ _ 2 (by omega)] at hv230_2; replace hv230_2 := Option.some.inj (hv230_2.symm.trans hx230_2); rw [hv230_2] at ge230_2; have HL230_2 := Aside0.mk (show Kd.R Kd.string 9 _ _ _ _ ((rd_T28 t213 0).f2) from ge230_2); clear hv230_2 ge230_2; clear hcc230 hce230; have qi230 : (0 < t213.length) = True := eq_true (by omega); (try rw [show ((0 : Int)).toNat = 0 from rfl] at hx230_0); (try rw [show 0 * 3 = 0 from rfl] at hx230_0); (try rw [Addr.add_zero'] at hx230_0); (try rw [show ((0 : Int)).toNat = 0 from rfl] at hx230_1); (try rw [show 0 * 3 = 0 from rfl] at hx230_1); (try rw [Addr.add_zero'] at hx230_1); (try rw [show ((0 : Int)).toNat = 0 from rfl] at hx230_2); (try rw [show 0 * 3 = 0 from rfl] at hx230_2); (try rw [Addr.add_zero'] at hx230_2); have HR230_2 := Aside0.mk hi230_2; have HC230_2 := Aside0.mk hl230_2; clear hi230_2 hl230_2; replace p230 := eq_true p230; replace q230 := eq_true q230) | ((with_reducible refine gate_dst (N := 80) rfl ?_); (try (refine gate_guard (by rfl) ?_; dsimp only)); refine Kd.R_lit k48 _ 48 ?hg (N := 80) ?hd (xs := ([(⟨1, 5⟩ : S48), (⟨3, 9⟩ : S48)] : List (S48))) (inner := [.int .i64 1, .int .i64 5, .int .i64 3, .int .i64 9]) (ok := fun _ => True) (okp := fun _ => True) ?hr ?hp (fun _ hk => hk) trivial (Below.refl _ _) (Nat.le_refl _) (by simp) ?_; (case hd => rfl); (case hg => rfl); (case hr => first | (go_simp; done) | (go_simp; rfl)); (case hp => exact (Reps.c2 (show Kd.M k48 _ _ _ (⟨1, 5⟩ : S48) [.int .i64 1, .int .i64 5] from (k48_mkM _ _ _ (⟨1, 5⟩ : S48) )) (Reps.c2 (show Kd.M k48 _ _ _ (⟨3, 9⟩ : S48) [.int .i64 3, .int .i64 9] from (k48_mkM _ _ _ (⟨3, 9⟩ : S48) )) (Reps.none _ _)))); intro v232 w33 ho34 hb hg_ hnew_; clear hg_ hnew_; (first | rw [← Ny231.out] at ho34 | (simp only [Int.reduceToNat] at ho34; rw [← Ny231.out] at ho34)); have n0_ := Aside0.mk (Kd.S_below (by (with_reducible repeat (first | apply Kd.S_alloc | apply Kd.S_drewN | apply Kd.S_drew)); exact HO204.out) hb); have n1_ := Aside0.mk (Kd.R_elder' (kr HO206.out) (Kd.R_base ho34) hb); have n2_ := Aside0.mk (Kd.S_below (by (with_reducible repeat (first | apply Kd.S_alloc | apply Kd.S_drewN | apply Kd.S_drew)); exact HO210.out) hb); have n3_ := Aside0.mk (Kd.R_elder' (kr HO212.out) (Kd.R_base ho34) hb); have n4_ := Aside0.mk (Kd.S_below (by (with_reducible repeat (first | apply Kd.S_alloc | apply Kd.S_drewN | apply Kd.S_drew)); exact HO216.out) hb); have n5_ := Aside0.mk (Kd.R_elder' (kr HO218.out) (Kd.R_base ho34) hb); have n6_ := Aside0.mk (Kd.R_below (kr HL219_2.out) hb); have n7_ := Aside0.mk (Kd.R_below (kr HL220_2.out) hb); have n8_ := Aside0.mk (Kd.R_below (kr HO223.out) hb); have n9_ := Aside0.mk (Kd.R_below (kr HL225_2.out) hb); have n10_ := Aside0.mk (Kd.R_below (kr HO228.out) hb); have n11_ := Aside0.mk (Kd.R_below (kr HL230_2.out) hb); have n12_ := Aside0.mk (Kd.R_lower (Kd.R_new' (Kd.R_new' (Kd.R_new' ho34 (Kd.R_lt (kr HO206.out))) (Kd.R_lt (kr HO212.out))) (Kd.R_lt (kr HO218.out))) (below_size bl)); have n13_ := Aside0.mk (Kd.C_below (by repeat (first | (with_reducible exact HR219_2.out) | (with_reducible refine Kd.C_alloc ?_ _) | (with_reducible refine Kd.C_drewN ?_ _) | (with_reducible refine Kd.C_drew ?_) | exact HR219_2.out)) hb); have n14_ := Aside0.mk (Kd.C_below (by repeat (first | (with_reducible exact HR220_2.out) | (with_reducible refine Kd.C_alloc ?_ _) | (with_reducible refine Kd.C_drewN ?_ _) | (with_reducible refine Kd.C_drew ?_) | exact HR220_2.out)) hb); have n15_ := Aside0.mk (Kd.C_below (by repeat (first | (with_reducible exact HR225_2.out) | (with_reducible refine Kd.C_alloc ?_ _) | (with_reducible refine Kd.C_drewN ?_ _) | (with_reducible refine Kd.C_drew ?_) | exact HR225_2.out)) hb); have n16_ := Aside0.mk (Kd.C_below (by repeat (first | (with_reducible exact HR230_2.out) | (with_reducible refine Kd.C_alloc ?_ _) | (with_reducible refine Kd.C_drewN ?_ _) | (with_reducible refine Kd.C_drew ?_) | exact HR230_2.out)) hb); have n17_ := Aside0.mk (below_step bl hb); clear HO204; clear HO206; clear HO210; clear HO212; clear HO216; clear HO218; clear HL219_2; clear HL220_2; clear HO223; clear HL225_2; clear HO228; clear HL230_2; clear HR219_2; clear HR220_2; clear HR225_2; clear HR230_2; clear HB; have HO204 := n0_; have HO206 := n1_; have HO210 := n2_; have HO212 := n3_; have HO216 := n4_; have HO218 := n5_; have HL219_2 := n6_; have HL220_2 := n7_; have HO223 := n8_; have HL225_2 := n9_; have HO228 := n10_; have HL230_2 := n11_; have HO233 := n12_; have HR219_2 := n13_; have HR220_2 := n14_; have HR225_2 := n15_; have HR230_2 := n16_; have HB := n17_; clear n0_ n1_ n2_ n3_ n4_ n5_ n6_ n7_ n8_ n9_ n10_ n11_ n12_ n13_ n14_ n15_ n16_ n17_; clear hb ho34; obtain ⟨Ao35, co35, eo35⟩ := Kd.R_slice HO218.out; subst eo35; obtain ⟨Ao36, co36, eo36⟩ := Kd.R_slice HO233.out; subst eo36) | (go_at_call 22; (with_reducible refine (slices_Equal_lines_Fault_lines_Fault.calls k _ _ t214 _ _ y231 t234 _ ?side1 ?side2 ?side3 ?side4 A18.out).mono ?_); (case side1 => repeat (first | exact (Kd.R_reads' HO218.out).2.2 | (with_reducible refine Kd.C_alloc ?_ _) | (with_reducible refine Kd.C_drewN ?_ _) | (with_reducible refine Kd.C_drew ?_))); (case side2 => exact (Kd.R_reads' HO218.out).2.1); (case side3 => repeat (first | exact (Kd.R_reads' HO233.out).2.2 | (with_reducible refine Kd.C_alloc ?_ _) | (with_reducible refine Kd.C_drewN ?_ _) | (with_reducible refine Kd.C_drew ?_))); (case side4 => exact (Kd.R_reads' HO233.out).2.1); rintro e w' ⟨rfl, ⟨nd, rfl⟩⟩))
             go_ret
             exact ⟨by first | rfl | (simp [bneNil]; done) | (simp [errW_none, errW_some] <;> rfl) | (simp [*, errW_none, errW_some] <;> rfl), by repeat (first | (with_reducible first | exact HB.out | apply below_alloc | apply pw_below_drewN | apply below_drew1) | exact HB.out)⟩
            ·rw [if_neg c17] at H
             have c17b0 : (((rd_T28 t213 0).f0) == 2) = false := beq_eq_false_iff_ne.mpr c17
             have c17b1 : (((rd_T28 t213 0).f0) != 2) = true := bne_iff_ne.mpr c17
             exact absurd ((Option.some.inj H).trans HT_r.out) (by decide)
           ·rw [if_neg c16] at H
            exact absurd H (by simp)
          ·rw [if_neg c15] at H
           have c15b0 : ((t213.length : Int) == 1) = false := beq_eq_false_iff_ne.mpr c15
           have c15b1 : ((t213.length : Int) != 1) = true := bne_iff_ne.mpr c15
           exact absurd ((Option.some.inj H).trans HT_r.out) (by decide)
         ·replace c14 := Bool.eq_false_iff.mpr c14
          subst c14
          have H1 : (some false) = some r := by rw [if_neg (show ¬ (false = true) by decide)] at H; exact H
          clear H
          have H := H1
          clear H1
          exact absurd ((Option.some.inj H).trans HT_r.out) (by decide)
        ·replace c13 := Bool.eq_false_iff.mpr c13
         subst c13
         have H1 : (some false) = some r := by rw [if_neg (show ¬ (false = true) by decide)] at H; exact H
         clear H
         have H := H1
         clear H1
         exact absurd ((Option.some.inj H).trans HT_r.out) (by decide)
       ·rw [if_neg c11] at H
        exact absurd H (by simp)
      ·rw [if_neg c10] at H
       have c10b0 : ((t208.length : Int) == 0) = false := beq_eq_false_iff_ne.mpr c10
       have c10b1 : ((t208.length : Int) != 0) = true := bne_iff_ne.mpr c10
       have c10b2 : ¬ (t208 = []) := fun h_ => c10 (by rw [h_]; rfl)
       by_cases c37 : t224 = true
       ·subst c37
        have H1 : (some false) = some r := by rw [if_pos rfl] at H; exact H
        clear H
        have H := H1
        clear H1
        exact absurd ((Option.some.inj H).trans HT_r.out) (by decide)
       ·replace c37 := Bool.eq_false_iff.mpr c37
        subst c37
        have H1 : (some false) = some r := by rw [if_neg (show ¬ (false = true) by decide)] at H; exact H
        clear H
        have H := H1
        clear H1
        exact absurd ((Option.some.inj H).trans HT_r.out) (by decide)
     ·rw [if_neg c9] at H
      have c9b0 : ((t207.length : Int) == 1) = false := beq_eq_false_iff_ne.mpr c9
      have c9b1 : ((t207.length : Int) != 1) = true := bne_iff_ne.mpr c9
      by_cases c38 : t224 = true
      ·subst c38
       have H1 : (some false) = some r := by rw [if_pos rfl] at H; exact H
       clear H
       have H := H1
       clear H1
       exact absurd ((Option.some.inj H).trans HT_r.out) (by decide)
      ·replace c38 := Bool.eq_false_iff.mpr c38
       subst c38
       have H1 : (some false) = some r := by rw [if_neg (show ¬ (false = true) by decide)] at H; exact H
       clear H
       have H := H1
       clear H1
       exact absurd ((Option.some.inj H).trans HT_r.out) (by decide)
    ·rw [if_neg c7] at H
     have c7b0 : (((rd_T28 t201 0).f1).toList == ([97] : List UInt8)) = false := beq_eq_false_iff_ne.mpr c7
     have c7b1 : (((rd_T28 t201 0).f1).toList != ([97] : List UInt8)) = true := bne_iff_ne.mpr c7
     by_cases c39 : (t207.length : Int) = 1
     ·rw [if_pos c39] at H
      have c39b0 : ((t207.length : Int) == 1) = true := beq_iff_eq.mpr c39
      have c39b1 : ((t207.length : Int) != 1) = false := bne_eq_false_iff_eq.mpr c39
      clear c39
      by_cases c40 : (t208.length : Int) = 0
      ·rw [if_pos c40] at H
       have c40b0 : ((t208.length : Int) == 0) = true := beq_iff_eq.mpr c40
       have c40b1 : ((t208.length : Int) != 0) = false := bne_eq_false_iff_eq.mpr c40
       clear c40
       by_cases c41 : 0 < (t207.length : Int)
       ·rw [if_pos c41] at H
        have c41b0 : decide (0 < (t207.length : Int)) = true := decide_eq_true c41
        have c41b1 : decide (0 < t207.length) = true := decide_eq_true (by omega)
        clear c41
        obtain ⟨y236, hy236⟩ : ∃ y_ : List ByteArray, y_ = (([(⟨#[98]⟩ : ByteArray), (⟨#[99]⟩ : ByteArray)] : List ByteArray)) := ⟨_, rfl⟩
        replace H : ((slices_Equal_string_string.f k ((rd_T28 t207 0).f2) y236).bind fun t239 => (some false)) = some r := by first | (rw [hy236]; with_reducible exact H) | (have H2_ := (Option.bind_some _ _).symm.trans H; rw [hy236]; with_reducible exact H2_) | (have H2_ := (Option.bind_some _ _).symm.trans H; with_reducible exact H2_) | with_reducible exact H | (rw [hy236]; exact H) | exact H
        have Ny236 := Aside0.mk hy236
        clear hy236
        replace H := Option.bind_eq_some_iff.mp H
        obtain ⟨t239, A420, H⟩ := H
        replace H : (some false) = some r := H
        have A42 := Aside0.mk A420
        clear A420
        exact absurd ((Option.some.inj H).trans HT_r.out) (by decide)
       ·rw [if_neg c41] at H
        exact absurd H (by simp)
      ·rw [if_neg c40] at H
       have c40b0 : ((t208.length : Int) == 0) = false := beq_eq_false_iff_ne.mpr c40
       have c40b1 : ((t208.length : Int) != 0) = true := bne_iff_ne.mpr c40
       have c40b2 : ¬ (t208 = []) := fun h_ => c40 (by rw [h_]; rfl)
       exact absurd ((Option.some.inj H).trans HT_r.out) (by decide)
     ·rw [if_neg c39] at H
      have c39b0 : ((t207.length : Int) == 1) = false := beq_eq_false_iff_ne.mpr c39
      have c39b1 : ((t207.length : Int) != 1) = true := bne_iff_ne.mpr c39
      exact absurd ((Option.some.inj H).trans HT_r.out) (by decide)
   ·rw [if_neg c6] at H
    exact absurd H (by simp)
  ·rw [if_neg c5] at H
   have c5b0 : ((t202.length : Int) == 0) = false := beq_eq_false_iff_ne.mpr c5
   have c5b1 : ((t202.length : Int) != 0) = true := bne_iff_ne.mpr c5
   have c5b2 : ¬ (t202 = []) := fun h_ => c5 (by rw [h_]; rfl)
   by_cases c43 : (t207.length : Int) = 1
   ·rw [if_pos c43] at H
    have c43b0 : ((t207.length : Int) == 1) = true := beq_iff_eq.mpr c43
    have c43b1 : ((t207.length : Int) != 1) = false := bne_eq_false_iff_eq.mpr c43
    clear c43
    by_cases c44 : (t208.length : Int) = 0
    ·rw [if_pos c44] at H
     have c44b0 : ((t208.length : Int) == 0) = true := beq_iff_eq.mpr c44
     have c44b1 : ((t208.length : Int) != 0) = false := bne_eq_false_iff_eq.mpr c44
     clear c44
     by_cases c45 : 0 < (t207.length : Int)
     ·rw [if_pos c45] at H
      have c45b0 : decide (0 < (t207.length : Int)) = true := decide_eq_true c45
      have c45b1 : decide (0 < t207.length) = true := decide_eq_true (by omega)
      clear c45
      obtain ⟨y241, hy241⟩ : ∃ y_ : List ByteArray, y_ = (([(⟨#[98]⟩ : ByteArray), (⟨#[99]⟩ : ByteArray)] : List ByteArray)) := ⟨_, rfl⟩
      replace H : ((slices_Equal_string_string.f k ((rd_T28 t207 0).f2) y241).bind fun t244 => (some false)) = some r := by first | (rw [hy241]; with_reducible exact H) | (have H2_ := (Option.bind_some _ _).symm.trans H; rw [hy241]; with_reducible exact H2_) | (have H2_ := (Option.bind_some _ _).symm.trans H; with_reducible exact H2_) | with_reducible exact H | (rw [hy241]; exact H) | exact H
      have Ny241 := Aside0.mk hy241
      clear hy241
      replace H := Option.bind_eq_some_iff.mp H
      obtain ⟨t244, A460, H⟩ := H
      replace H : (some false) = some r := H
      have A46 := Aside0.mk A460
      clear A460
      exact absurd ((Option.some.inj H).trans HT_r.out) (by decide)
     ·rw [if_neg c45] at H
      exact absurd H (by simp)
    ·rw [if_neg c44] at H
     have c44b0 : ((t208.length : Int) == 0) = false := beq_eq_false_iff_ne.mpr c44
     have c44b1 : ((t208.length : Int) != 0) = true := bne_iff_ne.mpr c44
     have c44b2 : ¬ (t208 = []) := fun h_ => c44 (by rw [h_]; rfl)
     exact absurd ((Option.some.inj H).trans HT_r.out) (by decide)
   ·rw [if_neg c43] at H
    have c43b0 : ((t207.length : Int) == 1) = false := beq_eq_false_iff_ne.mpr c43
    have c43b1 : ((t207.length : Int) != 1) = true := bne_iff_ne.mpr c43
    exact absurd ((Option.some.inj H).trans HT_r.out) (by decide)
 ·rw [if_neg c4] at H
  have c4b0 : ((t201.length : Int) == 1) = false := beq_eq_false_iff_ne.mpr c4
  have c4b1 : ((t201.length : Int) != 1) = true := bne_iff_ne.mpr c4
  by_cases c47 : (t207.length : Int) = 1
  ·rw [if_pos c47] at H
   have c47b0 : ((t207.length : Int) == 1) = true := beq_iff_eq.mpr c47
   have c47b1 : ((t207.length : Int) != 1) = false := bne_eq_false_iff_eq.mpr c47
   clear c47
   by_cases c48 : (t208.length : Int) = 0
   ·rw [if_pos c48] at H
    have c48b0 : ((t208.length : Int) == 0) = true := beq_iff_eq.mpr c48
    have c48b1 : ((t208.length : Int) != 0) = false := bne_eq_false_iff_eq.mpr c48
    clear c48
    by_cases c49 : 0 < (t207.length : Int)
    ·rw [if_pos c49] at H
     have c49b0 : decide (0 < (t207.length : Int)) = true := decide_eq_true c49
     have c49b1 : decide (0 < t207.length) = true := decide_eq_true (by omega)
     clear c49
     obtain ⟨y246, hy246⟩ : ∃ y_ : List ByteArray, y_ = (([(⟨#[98]⟩ : ByteArray), (⟨#[99]⟩ : ByteArray)] : List ByteArray)) := ⟨_, rfl⟩
     replace H : ((slices_Equal_string_string.f k ((rd_T28 t207 0).f2) y246).bind fun t249 => (some false)) = some r := by first | (rw [hy246]; with_reducible exact H) | (have H2_ := (Option.bind_some _ _).symm.trans H; rw [hy246]; with_reducible exact H2_) | (have H2_ := (Option.bind_some _ _).symm.trans H; with_reducible exact H2_) | with_reducible exact H | (rw [hy246]; exact H) | exact H
     have Ny246 := Aside0.mk hy246
     clear hy246
     replace H := Option.bind_eq_some_iff.mp H
     obtain ⟨t249, A500, H⟩ := H
     replace H : (some false) = some r := H
     have A50 := Aside0.mk A500
     clear A500
     exact absurd ((Option.some.inj H).trans HT_r.out) (by decide)
    ·rw [if_neg c49] at H
     exact absurd H (by simp)
   ·rw [if_neg c48] at H
    have c48b0 : ((t208.length : Int) == 0) = false := beq_eq_false_iff_ne.mpr c48
    have c48b1 : ((t208.length : Int) != 0) = true := bne_iff_ne.mpr c48
    have c48b2 : ¬ (t208 = []) := fun h_ => c48 (by rw [h_]; rfl)
    exact absurd ((Option.some.inj H).trans HT_r.out) (by decide)
  ·rw [if_neg c47] at H
   have c47b0 : ((t207.length : Int) == 1) = false := beq_eq_false_iff_ne.mpr c47
   have c47b1 : ((t207.length : Int) != 1) = true := bne_iff_ne.mpr c47
   exact absurd ((Option.some.inj H).trans HT_r.out) (by decide)

/-! ### strings_ContainsAny: function 30 (by hand) -/
def strings_ContainsAny.f (a0 a1 : ByteArray) : Option Bool := if a0.size ≤ 1000000 ∧ a1.size ≤ 1000000 ∧ (a0.data.toList.all fun b => decide (b.toNat < 128)) = true ∧ (a1.data.toList.all fun b => decide (b.toNat < 128)) = true then some (Lib.containsAny a0.data.toList a1.data.toList) else none
theorem strings_ContainsAny.calls (a0 a1 : ByteArray) (r : Bool) (w : World) (h : strings_ContainsAny.f a0 a1 = some r) :
    Calls Tryd.prog 30 #[.string a0, .string a1] w fun e w' => e = .returned (.bool r) ∧ Below w.heap.size w w' := by
  unfold strings_ContainsAny.f at h
  split at h
  · rename_i hs
    obtain rfl := Option.some.inj h
    refine Tryd.strings_ContainsAny_laid a0 a1 w (by omega) (by omega) (fun j b hj => ?_) (fun j b hj => ?_)
    · have := List.all_eq_true.1 hs.2.2.1 b (List.mem_of_getElem? hj)
      simpa using this
    · have := List.all_eq_true.1 hs.2.2.2 b (List.mem_of_getElem? hj)
      simpa using this
  · cases h


end Go.Proofs.YtgabcckljhnocaaDoor.Q
end
section
namespace Go.Proofs.YtgabcckljhnocaaDoor.Q
open Go.RowKit Go.Proofs.YtgabcckljhnocaaDoorW.PrintWords Go.Proofs.YtgabcckljhnocaaDoorW.PrintLast Go.Proofs.YtgabcckljhnocaaDoorW.PrintMore
attribute [local go_sem] max2_int min2_int max_two min_two max_three min_three max_four min_four   -- for this text's walks alone
set_option linter.unusedVariables false
set_option linter.unusedSimpArgs false

/-! ### lines_Quote: function 15 -/
mutual
def lines_Quote.j0 : Nat → ByteArray → Bool → Option (ByteArray)
 | 0, _, _ => none
 | k + 1, x0, x22 => if x22 = true then (some x0) else (lines_Quote.l0 k x0 (([34] : List Int)) (x0.size : Int) 0)
def lines_Quote.l0 : Nat → ByteArray → List Int → Int → Int → Option (ByteArray)
 | 0, _, _, _, _ => none
 | k + 1, x0, x3, x26, x27 => if x27 < x26 then (if 0 ≤ x27 then (if x27 < (x0.size : Int) then (if (bt x0 x27) = 34 then (if x3.length < 140737488355328 then ((some (x3 ++ [92] : List Int)).bind fun y255 => (if y255.length < 140737488355328 then (lines_Quote.l0 k x0 (y255 ++ [bt x0 x27]) x26 (wrap64 (x27 + 1))) else (none))) else (none)) else (if (bt x0 x27) = 92 then (if x3.length < 140737488355328 then ((some (x3 ++ [92] : List Int)).bind fun y261 => (if y261.length < 140737488355328 then (lines_Quote.l0 k x0 (y261 ++ [bt x0 x27]) x26 (wrap64 (x27 + 1))) else (none))) else (none)) else (if x3.length < 140737488355328 then (lines_Quote.l0 k x0 (x3 ++ [bt x0 x27]) x26 (wrap64 (x27 + 1))) else (none)))) else (none)) else (none)) else (if x3.length < 140737488355328 then (some (strOfNums (x3 ++ [34]))) else (none))
end
def lines_Quote.f (k : Nat) (a0 : ByteArray) : Option (ByteArray) := if a0.toList = ([] : List UInt8) then (lines_Quote.j0 k a0 false) else ((lines_trim.f a0).bind fun t250 => (if a0.toList = t250.toList then (if 0 < (a0.size : Int) then (if (bt a0 0) = 35 then (lines_Quote.j0 k a0 false) else ((strings_ContainsAny.f a0 (⟨#[58, 44, 34]⟩ : ByteArray)).bind fun t251 => (lines_Quote.j0 k a0 (!t251)))) else (none)) else (lines_Quote.j0 k a0 false)))
theorem lines_Quote.mono_l : ∀ k, (∀ y0 y1, LeO (lines_Quote.j0 k y0 y1) (lines_Quote.j0 (k + 1) y0 y1)) ∧ (∀ y0 y1 y2 y3, LeO (lines_Quote.l0 k y0 y1 y2 y3) (lines_Quote.l0 (k + 1) y0 y1 y2 y3))
 | 0 => ⟨fun _ _ r h => by simp [lines_Quote.j0] at h, fun _ _ _ _ r h => by simp [lines_Quote.l0] at h⟩
 | k + 1 => by
  obtain ⟨ih0, ih1⟩ := lines_Quote.mono_l k
  refine ⟨?_, ?_⟩
  ·intro y0 y1
   unfold lines_Quote.j0
   repeat' first
   | (with_reducible exact ih0 _ _)
   | (with_reducible exact ih1 _ _ _ _)
   | (with_reducible exact LeO.refl _)
   | (with_reducible exact LeO.none _)
   | (with_reducible refine LeO.ite ?_ ?_)
   | (with_reducible refine LeO.bind ?_ (fun _ => ?_))
   | exact ih0 _ _
   | exact ih1 _ _ _ _
   | exact LeO.none _
   | refine LeO.ite ?_ ?_
   | refine LeO.bind ?_ (fun _ => ?_)
  ·intro y0 y1 y2 y3
   unfold lines_Quote.l0
   repeat' first
   | (with_reducible exact ih0 _ _)
   | (with_reducible exact ih1 _ _ _ _)
   | (with_reducible exact LeO.refl _)
   | (with_reducible exact LeO.none _)
   | (with_reducible refine LeO.ite ?_ ?_)
   | (with_reducible refine LeO.bind ?_ (fun _ => ?_))
   | exact ih0 _ _
   | exact ih1 _ _ _ _
   | exact LeO.none _
   | refine LeO.ite ?_ ?_
   | refine LeO.bind ?_ (fun _ => ?_)
theorem lines_Quote.mono : ∀ a0 k, LeO (lines_Quote.f k a0) (lines_Quote.f (k + 1) a0) := by
 intro a0 k
 obtain ⟨ih0, ih1⟩ := lines_Quote.mono_l k
 unfold lines_Quote.f
 repeat' first
   | (with_reducible exact ih0 _ _)
   | (with_reducible exact ih1 _ _ _ _)
   | (with_reducible exact LeO.refl _)
   | (with_reducible exact LeO.none _)
   | (with_reducible refine LeO.ite ?_ ?_)
   | (with_reducible refine LeO.bind ?_ (fun _ => ?_))
   | exact ih0 _ _
   | exact ih1 _ _ _ _
   | exact LeO.none _
   | refine LeO.ite ?_ ?_
   | refine LeO.bind ?_ (fun _ => ?_)
set_option maxHeartbeats 8000000 in
set_option maxRecDepth 100000 in
theorem lines_Quote.calls (k : Nat) (a0 : ByteArray) (r : ByteArray) (w : World) (h : lines_Quote.f k a0 = some r) :
  Calls Tryd.prog 15 #[.string a0] w fun e w' => e = .returned (.string r) ∧ Below w.heap.size w w' := by
 have HB := Aside0.mk (Below.refl w.heap.size w)
 have H : (if a0.toList = ([] : List UInt8) then (lines_Quote.j0 k a0 false) else ((lines_trim.f a0).bind fun t250 => (if a0.toList = t250.toList then (if 0 < (a0.size : Int) then (if (bt a0 0) = 35 then (lines_Quote.j0 k a0 false) else ((strings_ContainsAny.f a0 (⟨#[58, 44, 34]⟩ : ByteArray)).bind fun t251 => (lines_Quote.j0 k a0 (!t251)))) else (none)) else (lines_Quote.j0 k a0 false)))) = some r := h
 clear h
 have HC2 := Aside0.mk H
 clear H
 go_enter Tryd.func15, Tryd.ntmps15
 go_upto_region 1 with (fail)
 go_cut [22] (fun v22 wc => ∃ (kq : Nat) (x22_1 : Bool), v22 = .bool x22_1 ∧ Aside0 (lines_Quote.j0 kq a0 x22_1 = some r) ∧ Aside0 (kq ≤ k) ∧ Aside0 (Below w.heap.size w wc))
 case first =>
  have H := HC2.out
  clear HC2
  by_cases c3 : a0.toList = ([] : List UInt8)
  ·rw [if_pos c3] at H
   have c3b0 : (a0.toList == ([] : List UInt8)) = true := beq_iff_eq.mpr c3
   have c3b1 : (a0.toList != ([] : List UInt8)) = false := bne_eq_false_iff_eq.mpr c3
   clear c3
   (first | rw [c3b0] | (simp only [i64_w, i32_w]; rw [c3b0]) | skip)
   have H' := Aside0.mk H
   clear H
   go_wp2
   go_meet
   case rel => exact ⟨_, (false), (by first | rfl | (simp; done) | (simp [*]; done)), H', ⟨by first | omega | exact Nat.le_refl _⟩, ⟨by repeat (first | (with_reducible first | exact HB.out | apply below_alloc | apply pw_below_drewN | apply below_drew1) | exact HB.out)⟩⟩
  ·rw [if_neg c3] at H
   have c3b0 : (a0.toList == ([] : List UInt8)) = false := beq_eq_false_iff_ne.mpr c3
   have c3b1 : (a0.toList != ([] : List UInt8)) = true := bne_iff_ne.mpr c3
   (first | rw [c3b0] | (simp only [i64_w, i32_w]; rw [c3b0]) | skip)
   replace H := Option.bind_eq_some_iff.mp H
   obtain ⟨t250, A40, H⟩ := H
   replace H : (if a0.toList = t250.toList then (if 0 < (a0.size : Int) then (if (bt a0 0) = 35 then (lines_Quote.j0 k a0 false) else ((strings_ContainsAny.f a0 (⟨#[58, 44, 34]⟩ : ByteArray)).bind fun t251 => (lines_Quote.j0 k a0 (!t251)))) else (none)) else (lines_Quote.j0 k a0 false)) = some r := H
   have A4 := Aside0.mk A40
   clear A40
   by_cases c5 : a0.toList = t250.toList
   ·rw [if_pos c5] at H
    have c5b0 : (a0.toList == t250.toList) = true := beq_iff_eq.mpr c5
    have c5b1 : (a0.toList != t250.toList) = false := bne_eq_false_iff_eq.mpr c5
    clear c5
    by_cases c6 : 0 < (a0.size : Int)
    ·rw [if_pos c6] at H
     have c6b0 : decide (0 < (a0.size : Int)) = true := decide_eq_true c6
     have c6b1 : decide (0 < a0.size) = true := decide_eq_true (by omega)
     clear c6
     by_cases c8 : (bt a0 0) = 35
     ·rw [if_pos c8] at H
      have c8b0 : ((bt a0 0) == 35) = true := beq_iff_eq.mpr c8
      have c8b1 : ((bt a0 0) != 35) = false := bne_eq_false_iff_eq.mpr c8
      clear c8
      have H' := Aside0.mk H
      clear H
      go_wp2_with (first | (go_at_call 29; (with_reducible refine (lines_trim.calls a0 t250 _ A4.out).mono ?_); rintro e w9 ⟨rfl, hb⟩; have n0_ := Aside0.mk (below_step bl hb); clear HB; have HB := n0_; clear n0_; (try clear hb); (try clear hb2); (try clear hk); (try clear hi); have p7 : 0 ≤ (0 : Int) := (by omega); have q7 : 0 < a0.size := (by have : (0 : Int) < (a0.size : Int) := od; omega); have hx7 : ∀ h : 0 < a0.size, ((a0[0]'h).toNat : Int) = bt a0 0 := bt_at a0 0; clear p7; have qi7 : (0 < (a0.size : Int)) = True := eq_true (od); replace q7 := eq_true q7))
      go_meet
      case rel => exact ⟨_, (false), (by first | rfl | (simp; done) | (simp [*]; done)), H', ⟨by first | omega | exact Nat.le_refl _⟩, ⟨by repeat (first | (with_reducible first | exact HB.out | apply below_alloc | apply pw_below_drewN | apply below_drew1) | exact HB.out)⟩⟩
     ·rw [if_neg c8] at H
      have c8b0 : ((bt a0 0) == 35) = false := beq_eq_false_iff_ne.mpr c8
      have c8b1 : ((bt a0 0) != 35) = true := bne_iff_ne.mpr c8
      replace H := Option.bind_eq_some_iff.mp H
      obtain ⟨t251, A100, H⟩ := H
      replace H : (lines_Quote.j0 k a0 (!t251)) = some r := H
      have A10 := Aside0.mk A100
      clear A100
      have H' := Aside0.mk H
      clear H
      go_wp2_with (first | (go_at_call 29; (with_reducible refine (lines_trim.calls a0 t250 _ A4.out).mono ?_); rintro e w11 ⟨rfl, hb⟩; have n0_ := Aside0.mk (below_step bl hb); clear HB; have HB := n0_; clear n0_; (try clear hb); (try clear hb2); (try clear hk); (try clear hi); have p7 : 0 ≤ (0 : Int) := (by omega); have q7 : 0 < a0.size := (by have : (0 : Int) < (a0.size : Int) := od; omega); have hx7 : ∀ h : 0 < a0.size, ((a0[0]'h).toNat : Int) = bt a0 0 := bt_at a0 0; clear p7; have qi7 : (0 < (a0.size : Int)) = True := eq_true (od); replace q7 := eq_true q7) | (go_at_call 30; (with_reducible refine (strings_ContainsAny.calls a0 (⟨#[58, 44, 34]⟩ : ByteArray) t251 _ A10.out).mono ?_); rintro e w12 ⟨rfl, hb⟩; have n0_ := Aside0.mk (below_step bl hb); clear HB; have HB := n0_; clear n0_; (try clear hb); (try clear hb2); (try clear hk); (try clear hi)))
      go_meet
      case rel => exact ⟨_, (!t251), (by first | rfl | (simp; done) | (simp [*]; done)), H', ⟨by first | omega | exact Nat.le_refl _⟩, ⟨by repeat (first | (with_reducible first | exact HB.out | apply below_alloc | apply pw_below_drewN | apply below_drew1) | exact HB.out)⟩⟩
    ·rw [if_neg c6] at H
     exact absurd H (by simp)
   ·rw [if_neg c5] at H
    have c5b0 : (a0.toList == t250.toList) = false := beq_eq_false_iff_ne.mpr c5
    have c5b1 : (a0.toList != t250.toList) = true := bne_iff_ne.mpr c5
    have H' := Aside0.mk H
    clear H
    go_wp2_with (first | (go_at_call 29; (with_reducible refine (lines_trim.calls a0 t250 _ A4.out).mono ?_); rintro e w13 ⟨rfl, hb⟩; have n0_ := Aside0.mk (below_step bl hb); clear HB; have HB := n0_; clear n0_; (try clear hb); (try clear hb2); (try clear hk); (try clear hi)))
    go_meet
    case rel => exact ⟨_, (false), (by first | rfl | (simp; done) | (simp [*]; done)), H', ⟨by first | omega | exact Nat.le_refl _⟩, ⟨by repeat (first | (with_reducible first | exact HB.out | apply below_alloc | apply pw_below_drewN | apply below_drew1) | exact HB.out)⟩⟩
 case rest =>
  clear HC2
  try clear c1
  try clear p2
  try clear c3
  try clear c3b0
  try clear c3b1
  try clear c5
  try clear c5b0
  try clear c5b1
  try clear c6
  try clear c6b0
  try clear c6b1
  try clear p7
  try clear q7
  try clear hx7
  try clear qi7
  try clear c8
  try clear c8b0
  try clear c8b1
  try clear p7
  try clear q7
  obtain ⟨kq, x22_1, rfl, HA, HJ1, HB⟩ := hcut
  cases kq with
  | zero => exact absurd HA.out (by simp [lines_Quote.j0])
  | succ kj1 =>
   have H := HA.out
   clear HA
   simp only [lines_Quote.j0] at H
   by_cases c14 : x22_1 = true
   ·subst c14
    have H1 : (some a0) = some r := by rw [if_pos rfl] at H; exact H
    clear H
    have H := H1
    clear H1
    obtain rfl := Option.some.inj H
    go_wp2
    go_ret
    exact ⟨by first | rfl | (simp [bneNil]; done) | (simp [errW_none, errW_some] <;> rfl) | (simp [*, errW_none, errW_some] <;> rfl), by repeat (first | (with_reducible first | exact HB.out | apply below_alloc | apply pw_below_drewN | apply below_drew1) | exact HB.out)⟩
   ·replace c14 := Bool.eq_false_iff.mpr c14
    subst c14
    have H1 : (lines_Quote.l0 kj1 a0 (([34] : List Int)) (a0.size : Int) 0) = some r := by rw [if_neg (show ¬ (false = true) by decide)] at H; exact H
    clear H
    have H := H1
    clear H1
    obtain ⟨y252, hy252⟩ : ∃ y_ : List Int, y_ = (([34] : List Int)) := ⟨_, rfl⟩
    replace H : (lines_Quote.l0 kj1 a0 y252 (a0.size : Int) 0) = some r := by first | (rw [hy252]; with_reducible exact H) | (have H2_ := (Option.bind_some _ _).symm.trans H; rw [hy252]; with_reducible exact H2_) | (have H2_ := (Option.bind_some _ _).symm.trans H; with_reducible exact H2_) | with_reducible exact H | (rw [hy252]; exact H) | exact H
    have Ny252 := Aside0.mk hy252
    clear hy252
    have H' := Aside0.mk H
    clear H
    go_wp2_with (first | ((with_reducible refine gate_dst (N := 24) rfl ?_); refine Kd.R_lit (Kd.int .u8) _ 5 ?hg (N := 24) ?hd (xs := ([34] : List Int)) (inner := [.int .u8 34]) (ok := fun _ => True) (okp := fun _ => True) ?hr ?hp (fun _ hk => hk) trivial (Below.refl _ _) (Nat.le_refl _) (by simp) ?_; (case hd => rfl); (case hg => rfl); (case hr => first | (go_simp; done) | (go_simp; rfl)); (case hp => exact (Reps.one (show Kd.M (Kd.int .u8) _ _ _ 34 [.int .u8 34] from rfl) (Reps.none _ _))); intro v253 w15 ho16 hb hg_ hnew_; clear hg_ hnew_; (first | rw [← Ny252.out] at ho16 | (simp only [Int.reduceToNat] at ho16; rw [← Ny252.out] at ho16)); have n0_ := Aside0.mk (Kd.R_lower ho16 (below_size bl)); have n1_ := Aside0.mk (below_step bl hb); clear HB; have HO254 := n0_; have HB := n1_; clear n0_ n1_; clear hb ho16))
    go_loopg [3, 27] kj1 (fun kq v3 v27 w' => ∃ (x3_2 : List Int) (x27_2 : Int), v27 = .int .i64 x27_2 ∧ Aside0 (lines_Quote.l0 kq a0 x3_2 (a0.size : Int) x27_2 = some r) ∧ Aside0 (kq ≤ kj1) ∧ Aside0 (Kd.R (Kd.int .u8) 5 w' w.heap.size (fun _ => True) v3 x3_2) ∧ Aside0 (Below w.heap.size w w'))
    case atStart => exact ⟨(y252), (0), (by first | rfl | (simp; done) | (simp [*]; done)), H', ⟨Nat.le_refl _⟩, ⟨by (with_reducible repeat (first | apply Kd.R_alloc | apply Kd.R_drewN | apply Kd.R_drew)); exact HO254.out⟩, ⟨by repeat (first | (with_reducible first | exact HB.out | apply below_alloc | apply pw_below_drewN | apply below_drew1) | exact HB.out)⟩⟩
    case round =>
     clear H'
     try clear c1
     try clear p2
     try clear c3
     try clear c3b0
     try clear c3b1
     try clear c5
     try clear c5b0
     try clear c5b1
     try clear c6
     try clear c6b0
     try clear c6b1
     try clear p7
     try clear q7
     try clear hx7
     try clear qi7
     try clear c8
     try clear c8b0
     try clear c8b1
     try clear c14
     try clear c15
     try clear p2
     try clear p7
     try clear q7
     obtain ⟨x3_2, x27_2, rfl, HA, HK2, HO_3, HB⟩ := hrel
     cases gk with
     | zero => exact absurd HA.out (by simp [lines_Quote.l0])
     | succ k2 =>
      have H := HA.out
      clear HA
      simp only [lines_Quote.l0] at H
      by_cases c17 : x27_2 < (a0.size : Int)
      ·rw [if_pos c17] at H
       have c17b0 : decide (x27_2 < (a0.size : Int)) = true := decide_eq_true c17
       clear c17
       by_cases c18 : 0 ≤ x27_2
       ·rw [if_pos c18] at H
        have c18b0 : decide (0 ≤ x27_2) = true := decide_eq_true c18
        clear c18
        by_cases c19 : x27_2 < (a0.size : Int)
        ·rw [if_pos c19] at H
         have c19b0 : decide (x27_2 < (a0.size : Int)) = true := decide_eq_true c19
         clear c19
         by_cases c21 : (bt a0 x27_2) = 34
         ·rw [if_pos c21] at H
          have c21b0 : ((bt a0 x27_2) == 34) = true := beq_iff_eq.mpr c21
          have c21b1 : ((bt a0 x27_2) != 34) = false := bne_eq_false_iff_eq.mpr c21
          clear c21
          by_cases c22 : x3_2.length < 140737488355328
          ·rw [if_pos c22] at H
           have LMc22 := Aside0.mk c22
           clear c22
           obtain ⟨y255, hy255⟩ : ∃ y_ : List Int, y_ = (x3_2 ++ [92]) := ⟨_, rfl⟩
           replace H : (if y255.length < 140737488355328 then (lines_Quote.l0 k2 a0 (y255 ++ [bt a0 x27_2]) (a0.size : Int) (wrap64 (x27_2 + 1))) else (none)) = some r := by first | (rw [hy255]; with_reducible exact H) | (have H2_ := (Option.bind_some _ _).symm.trans H; rw [hy255]; with_reducible exact H2_) | (have H2_ := (Option.bind_some _ _).symm.trans H; with_reducible exact H2_) | with_reducible exact H | (rw [hy255]; exact H) | exact H
           have Ny255 := Aside0.mk hy255
           clear hy255
           by_cases c24 : y255.length < 140737488355328
           ·rw [if_pos c24] at H
            have LMc24 := Aside0.mk c24
            clear c24
            obtain ⟨y258, hy258⟩ : ∃ y_ : List Int, y_ = (y255 ++ [bt a0 x27_2]) := ⟨_, rfl⟩
            replace H : (lines_Quote.l0 k2 a0 y258 (a0.size : Int) (wrap64 (x27_2 + 1))) = some r := by first | (rw [hy258]; with_reducible exact H) | (have H2_ := (Option.bind_some _ _).symm.trans H; rw [hy258]; with_reducible exact H2_) | (have H2_ := (Option.bind_some _ _).symm.trans H; with_reducible exact H2_) | with_reducible exact H | (rw [hy258]; exact H) | exact H
            have Ny258 := Aside0.mk hy258
            clear hy258
            have H' := Aside0.mk H
            clear H
            have p20 : 0 ≤ (x27_2 : Int) := od
            have q20 : x27_2 < (a0.size : Int) := od
            have hx20 := bt_at a0 x27_2
            replace p20 := eq_true p20
            replace q20 := eq_true q20
            go_wp2_with (first | ((with_reducible refine gate_builtin (b := .append) (xs := #[.tmp 40, .tmp 41]) rfl ?_); at_builtin; refine Kd.R_append (Kd.int .u8) (w0 := w) w.heap.size rfl (.tmp 40) (.tmp 41) 23 5 (.int .u8 0) 1 rfl Tryd.underlying23 info5 rfl (by decide) (by omega) u3 x3_2 92 [.int .u8 92] (fun _ => True) (fun _ => False) rfl rfl ?aP (fun _ hk => hk.elim) ?aF ?aO ?aB ?aS ?aL ?_; (case aP => exact rfl); (case aB => exact bl); (case aF => exact (fun _ _ => trivial)); (case aO => exact (kr HO_3.out)); (case aS => exact (below_size bl)); (case aL => have := LMc22.out; omega); intro v256 w25 ho hb hg hat; rw [← Ny255.out] at ho; have n0_ := Aside0.mk (hb); have n1_ := Aside0.mk (ho); clear HB; clear HO_3; have HB := n0_; have HO257 := n1_; clear n0_ n1_; clear ho hb hg hat; have p23 : 0 ≤ (x27_2 : Int) := od; have q23 : x27_2 < (a0.size : Int) := od; have hx23 := bt_at a0 x27_2; replace p23 := eq_true p23; replace q23 := eq_true q23) | ((with_reducible refine gate_builtin (b := .append) (xs := #[.tmp 43, .tmp 47]) rfl ?_); at_builtin; refine Kd.R_append (Kd.int .u8) (w0 := w) w.heap.size rfl (.tmp 43) (.tmp 47) 23 5 (.int .u8 0) 1 rfl Tryd.underlying23 info5 rfl (by decide) (by omega) v256 y255 (bt a0 x27_2) [.int .u8 (bt a0 x27_2)] (fun _ => True) (fun _ => False) rfl rfl ?aP (fun _ hk => hk.elim) ?aF ?aO ?aB ?aS ?aL ?_; (case aP => exact rfl); (case aB => exact bl); (case aF => exact (fun _ _ => trivial)); (case aO => exact (kr HO257.out)); (case aS => exact (below_size bl)); (case aL => have := LMc24.out; omega); intro v259 w26 ho hb hg hat; rw [← Ny258.out] at ho; have n0_ := Aside0.mk (hb); have n1_ := Aside0.mk (ho); clear HB; clear HO257; have HB := n0_; have HO260 := n1_; clear n0_ n1_; clear ho hb hg hat))
            go_roundg k2
            case measure => have := HJ1.out; have := HK2.out; omega
            case rel => exact ⟨(y258), (wrap64 (x27_2 + 1)), (by first | rfl | (simp; done) | (simp [*]; done)), H', ⟨by have := HJ1.out; have := HK2.out; omega⟩, ⟨by (with_reducible repeat (first | apply Kd.R_alloc | apply Kd.R_drewN | apply Kd.R_drew)); exact HO260.out⟩, ⟨by repeat (first | (with_reducible first | exact HB.out | apply below_alloc | apply pw_below_drewN | apply below_drew1) | exact HB.out)⟩⟩
           ·rw [if_neg c24] at H
            exact absurd H (by simp)
          ·rw [if_neg c22] at H
           exact absurd H (by simp)
         ·rw [if_neg c21] at H
          have c21b0 : ((bt a0 x27_2) == 34) = false := beq_eq_false_iff_ne.mpr c21
          have c21b1 : ((bt a0 x27_2) != 34) = true := bne_iff_ne.mpr c21
          by_cases c28 : (bt a0 x27_2) = 92
          ·rw [if_pos c28] at H
           have c28b0 : ((bt a0 x27_2) == 92) = true := beq_iff_eq.mpr c28
           have c28b1 : ((bt a0 x27_2) != 92) = false := bne_eq_false_iff_eq.mpr c28
           clear c28
           by_cases c29 : x3_2.length < 140737488355328
           ·rw [if_pos c29] at H
            have LMc29 := Aside0.mk c29
            clear c29
            obtain ⟨y261, hy261⟩ : ∃ y_ : List Int, y_ = (x3_2 ++ [92]) := ⟨_, rfl⟩
            replace H : (if y261.length < 140737488355328 then (lines_Quote.l0 k2 a0 (y261 ++ [bt a0 x27_2]) (a0.size : Int) (wrap64 (x27_2 + 1))) else (none)) = some r := by first | (rw [hy261]; with_reducible exact H) | (have H2_ := (Option.bind_some _ _).symm.trans H; rw [hy261]; with_reducible exact H2_) | (have H2_ := (Option.bind_some _ _).symm.trans H; with_reducible exact H2_) | with_reducible exact H | (rw [hy261]; exact H) | exact H
            have Ny261 := Aside0.mk hy261
            clear hy261
            by_cases c31 : y261.length < 140737488355328
            ·rw [if_pos c31] at H
             have LMc31 := Aside0.mk c31
             clear c31
             obtain ⟨y264, hy264⟩ : ∃ y_ : List Int, y_ = (y261 ++ [bt a0 x27_2]) := ⟨_, rfl⟩
             replace H : (lines_Quote.l0 k2 a0 y264 (a0.size : Int) (wrap64 (x27_2 + 1))) = some r := by first | (rw [hy264]; with_reducible exact H) | (have H2_ := (Option.bind_some _ _).symm.trans H; rw [hy264]; with_reducible exact H2_) | (have H2_ := (Option.bind_some _ _).symm.trans H; with_reducible exact H2_) | with_reducible exact H | (rw [hy264]; exact H) | exact H
             have Ny264 := Aside0.mk hy264
             clear hy264
             have H' := Aside0.mk H
             clear H
             have p20 : 0 ≤ (x27_2 : Int) := od
             have q20 : x27_2 < (a0.size : Int) := od
             have hx20 := bt_at a0 x27_2
             replace p20 := eq_true p20
             replace q20 := eq_true q20
             have p27 : 0 ≤ (x27_2 : Int) := od
             have q27 : x27_2 < (a0.size : Int) := od
             have hx27 := bt_at a0 x27_2
             replace p27 := eq_true p27
             replace q27 := eq_true q27
             go_wp2_with (first | ((with_reducible refine gate_builtin (b := .append) (xs := #[.tmp 40, .tmp 41]) rfl ?_); at_builtin; refine Kd.R_append (Kd.int .u8) (w0 := w) w.heap.size rfl (.tmp 40) (.tmp 41) 23 5 (.int .u8 0) 1 rfl Tryd.underlying23 info5 rfl (by decide) (by omega) u3 x3_2 92 [.int .u8 92] (fun _ => True) (fun _ => False) rfl rfl ?aP (fun _ hk => hk.elim) ?aF ?aO ?aB ?aS ?aL ?_; (case aP => exact rfl); (case aB => exact bl); (case aF => exact (fun _ _ => trivial)); (case aO => exact (kr HO_3.out)); (case aS => exact (below_size bl)); (case aL => have := LMc29.out; omega); intro v262 w32 ho hb hg hat; rw [← Ny261.out] at ho; have n0_ := Aside0.mk (hb); have n1_ := Aside0.mk (ho); clear HB; clear HO_3; have HB := n0_; have HO263 := n1_; clear n0_ n1_; clear ho hb hg hat; have p30 : 0 ≤ (x27_2 : Int) := od; have q30 : x27_2 < (a0.size : Int) := od; have hx30 := bt_at a0 x27_2; replace p30 := eq_true p30; replace q30 := eq_true q30) | ((with_reducible refine gate_builtin (b := .append) (xs := #[.tmp 43, .tmp 47]) rfl ?_); at_builtin; refine Kd.R_append (Kd.int .u8) (w0 := w) w.heap.size rfl (.tmp 43) (.tmp 47) 23 5 (.int .u8 0) 1 rfl Tryd.underlying23 info5 rfl (by decide) (by omega) v262 y261 (bt a0 x27_2) [.int .u8 (bt a0 x27_2)] (fun _ => True) (fun _ => False) rfl rfl ?aP (fun _ hk => hk.elim) ?aF ?aO ?aB ?aS ?aL ?_; (case aP => exact rfl); (case aB => exact bl); (case aF => exact (fun _ _ => trivial)); (case aO => exact (kr HO263.out)); (case aS => exact (below_size bl)); (case aL => have := LMc31.out; omega); intro v265 w33 ho hb hg hat; rw [← Ny264.out] at ho; have n0_ := Aside0.mk (hb); have n1_ := Aside0.mk (ho); clear HB; clear HO263; have HB := n0_; have HO266 := n1_; clear n0_ n1_; clear ho hb hg hat))
             go_roundg k2
             case measure => have := HJ1.out; have := HK2.out; omega
             case rel => exact ⟨(y264), (wrap64 (x27_2 + 1)), (by first | rfl | (simp; done) | (simp [*]; done)), H', ⟨by have := HJ1.out; have := HK2.out; omega⟩, ⟨by (with_reducible repeat (first | apply Kd.R_alloc | apply Kd.R_drewN | apply Kd.R_drew)); exact HO266.out⟩, ⟨by repeat (first | (with_reducible first | exact HB.out | apply below_alloc | apply pw_below_drewN | apply below_drew1) | exact HB.out)⟩⟩
            ·rw [if_neg c31] at H
             exact absurd H (by simp)
           ·rw [if_neg c29] at H
            exact absurd H (by simp)
          ·rw [if_neg c28] at H
           have c28b0 : ((bt a0 x27_2) == 92) = false := beq_eq_false_iff_ne.mpr c28
           have c28b1 : ((bt a0 x27_2) != 92) = true := bne_iff_ne.mpr c28
           by_cases c35 : x3_2.length < 140737488355328
           ·rw [if_pos c35] at H
            have LMc35 := Aside0.mk c35
            clear c35
            obtain ⟨y267, hy267⟩ : ∃ y_ : List Int, y_ = (x3_2 ++ [bt a0 x27_2]) := ⟨_, rfl⟩
            replace H : (lines_Quote.l0 k2 a0 y267 (a0.size : Int) (wrap64 (x27_2 + 1))) = some r := by first | (rw [hy267]; with_reducible exact H) | (have H2_ := (Option.bind_some _ _).symm.trans H; rw [hy267]; with_reducible exact H2_) | (have H2_ := (Option.bind_some _ _).symm.trans H; with_reducible exact H2_) | with_reducible exact H | (rw [hy267]; exact H) | exact H
            have Ny267 := Aside0.mk hy267
            clear hy267
            have H' := Aside0.mk H
            clear H
            have p20 : 0 ≤ (x27_2 : Int) := od
            have q20 : x27_2 < (a0.size : Int) := od
            have hx20 := bt_at a0 x27_2
            replace p20 := eq_true p20
            replace q20 := eq_true q20
            have p27 : 0 ≤ (x27_2 : Int) := od
            have q27 : x27_2 < (a0.size : Int) := od
            have hx27 := bt_at a0 x27_2
            replace p27 := eq_true p27
            replace q27 := eq_true q27
            have p34 : 0 ≤ (x27_2 : Int) := od
            have q34 : x27_2 < (a0.size : Int) := od
            have hx34 := bt_at a0 x27_2
            replace p34 := eq_true p34
            replace q34 := eq_true q34
            go_wp2_with (first | ((with_reducible refine gate_builtin (b := .append) (xs := #[.tmp 43, .tmp 47]) rfl ?_); at_builtin; refine Kd.R_append (Kd.int .u8) (w0 := w) w.heap.size rfl (.tmp 43) (.tmp 47) 23 5 (.int .u8 0) 1 rfl Tryd.underlying23 info5 rfl (by decide) (by omega) u3 x3_2 (bt a0 x27_2) [.int .u8 (bt a0 x27_2)] (fun _ => True) (fun _ => False) rfl rfl ?aP (fun _ hk => hk.elim) ?aF ?aO ?aB ?aS ?aL ?_; (case aP => exact rfl); (case aB => exact bl); (case aF => exact (fun _ _ => trivial)); (case aO => exact (kr HO_3.out)); (case aS => exact (below_size bl)); (case aL => have := LMc35.out; omega); intro v268 w36 ho hb hg hat; rw [← Ny267.out] at ho; have n0_ := Aside0.mk (hb); have n1_ := Aside0.mk (ho); clear HB; clear HO_3; have HB := n0_; have HO269 := n1_; clear n0_ n1_; clear ho hb hg hat))
            go_roundg k2
            case measure => have := HJ1.out; have := HK2.out; omega
            case rel => exact ⟨(y267), (wrap64 (x27_2 + 1)), (by first | rfl | (simp; done) | (simp [*]; done)), H', ⟨by have := HJ1.out; have := HK2.out; omega⟩, ⟨by (with_reducible repeat (first | apply Kd.R_alloc | apply Kd.R_drewN | apply Kd.R_drew)); exact HO269.out⟩, ⟨by repeat (first | (with_reducible first | exact HB.out | apply below_alloc | apply pw_below_drewN | apply below_drew1) | exact HB.out)⟩⟩
           ·rw [if_neg c35] at H
            exact absurd H (by simp)
        ·rw [if_neg c19] at H
         exact absurd H (by simp)
       ·rw [if_neg c18] at H
        exact absurd H (by simp)
      ·rw [if_neg c17] at H
       have c17b0 : decide (x27_2 < (a0.size : Int)) = false := decide_eq_false c17
       clear c17
       by_cases c37 : x3_2.length < 140737488355328
       ·rw [if_pos c37] at H
        have LMc37 := Aside0.mk c37
        clear c37
        obtain ⟨y270, hy270⟩ : ∃ y_ : List Int, y_ = (x3_2 ++ [34]) := ⟨_, rfl⟩
        replace H : (some (strOfNums y270)) = some r := by first | (rw [hy270]; with_reducible exact H) | (have H2_ := (Option.bind_some _ _).symm.trans H; rw [hy270]; with_reducible exact H2_) | (have H2_ := (Option.bind_some _ _).symm.trans H; with_reducible exact H2_) | with_reducible exact H | (rw [hy270]; exact H) | exact H
        have Ny270 := Aside0.mk hy270
        clear hy270
        obtain rfl := Option.some.inj H
        go_wp2_with (first | ((with_reducible refine gate_builtin (b := .append) (xs := #[.tmp 50, .tmp 51]) rfl ?_); at_builtin; refine Kd.R_append (Kd.int .u8) (w0 := w) w.heap.size rfl (.tmp 50) (.tmp 51) 23 5 (.int .u8 0) 1 rfl Tryd.underlying23 info5 rfl (by decide) (by omega) u3 x3_2 34 [.int .u8 34] (fun _ => True) (fun _ => False) rfl rfl ?aP (fun _ hk => hk.elim) ?aF ?aO ?aB ?aS ?aL ?_; (case aP => exact rfl); (case aB => exact bl); (case aF => exact (fun _ _ => trivial)); (case aO => exact (kr HO_3.out)); (case aS => exact (below_size bl)); (case aL => have := LMc37.out; omega); intro v271 w38 ho hb hg hat; rw [← Ny270.out] at ho; have n0_ := Aside0.mk (hb); have n1_ := Aside0.mk (ho); clear HB; clear HO_3; have HB := n0_; have HO272 := n1_; clear n0_ n1_; clear ho hb hg hat; have hcv39 := own_string (P := Tryd.prog) Tryd.underlying23 Tryd.underlying5 Tryd.underlying9 (Kd.own_of_R HO272.out)))
        go_ret
        exact ⟨by first | rfl | (simp [bneNil]; done) | (simp [errW_none, errW_some] <;> rfl) | (simp [*, errW_none, errW_some] <;> rfl), by repeat (first | (with_reducible first | exact HB.out | apply below_alloc | apply pw_below_drewN | apply below_drew1) | exact HB.out)⟩
       ·rw [if_neg c37] at H
        exact absurd H (by simp)

/-! ### strings_Repeat: function 17 (by hand) -/
def strings_Repeat.f (a0 : ByteArray) (a1 : Int) : Option ByteArray := if 0 ≤ a1 ∧ a1 ≤ 9223372036854775807 ∧ a0.size * a1.toNat ≤ 140737488355328 then some ⟨(Lib.repeatL a0.data.toList a1.toNat).toArray⟩ else none
theorem strings_Repeat.calls (a0 : ByteArray) (a1 : Int) (r : ByteArray) (w : World) (h : strings_Repeat.f a0 a1 = some r) :
    Calls Tryd.prog 17 #[.string a0, .int .i64 a1] w fun e w' => e = .returned (.string r) ∧ Below w.heap.size w w' := by
  unfold strings_Repeat.f at h
  split at h
  · rename_i hs
    obtain rfl := Option.some.inj h
    have hn : ((a1.toNat : Nat) : Int) = a1 := by omega
    have c := Tryd.strings_Repeat a0 a1.toNat w (by omega) hs.2.2
    rw [hn] at c
    exact c
  · cases h


/-! ### strings_Join: function 18 (by hand) -/
def strings_Join.f (l0 : List ByteArray) (a1 : ByteArray) : Option ByteArray := match l0 with
  | [] => none
  | x :: t => if (x :: t).length ≤ 140737488355328 ∧ (Lib.join ((x :: t).map (·.data.toList)) a1.data.toList).length ≤ 140737488355328 then some ⟨(Lib.join ((x :: t).map (·.data.toList)) a1.data.toList).toArray⟩ else none
theorem join_cells {w : World} {A : Option Addr} {l : List ByteArray} (h : Kd.C Kd.string w A l.length l) (hl : 0 < l.length) : ∃ bk o, A = some ⟨bk, o, none⟩ ∧ bk < w.heap.size ∧ ∀ (j : Nat) x, l[j]? = some x → w.cell? ⟨bk, o + j, none⟩ = some (.string x) := by
  obtain ⟨_, _, h3⟩ : ReadsOf Value.string ByteArray.empty w A l.length l := Kd.reads_of_C h
  obtain ⟨⟨bk, o, sp⟩, rfl, hc⟩ := h3 hl
  have hsp : sp = none := by
    have h0 := hc 0 hl
    have := World.block_lt_of_cell? w _ h0
    cases sp with
    | none => rfl
    | some q =>
      exfalso
      unfold Addr.add at h0
      simp [World.cell?] at h0
      revert h0
      split <;> simp
  subst hsp
  refine ⟨bk, o, rfl, World.block_lt_of_cell? w _ (hc 0 hl), ?_⟩
  intro j x hj
  have hj' : j < l.length := (List.getElem?_eq_some_iff.1 hj).1
  have := hc j hj'
  have e : (⟨bk, o, none⟩ : Addr).add j = ⟨bk, o + j, none⟩ := by unfold Addr.add; split <;> simp_all
  rw [e] at this
  rw [this, List.getD_eq_getElem?_getD, hj]; rfl
theorem strings_Join.calls (A0 : Option Addr) (c0 : Nat) (l0 : List ByteArray) (a1 : ByteArray) (r : ByteArray) (w : World) (hr0 : Kd.C Kd.string w A0 l0.length l0) (hc0 : l0.length ≤ c0) (h : strings_Join.f l0 a1 = some r) :
    Calls Tryd.prog 18 #[.slice A0 l0.length c0, .string a1] w fun e w' => e = .returned (.string r) ∧ Below w.heap.size w w' := by
  unfold strings_Join.f at h
  split at h
  · cases h
  · rename_i x t
    split at h
    · rename_i hb
      obtain rfl := Option.some.inj h
      obtain ⟨bk, o, rfl, hbk, hc⟩ := join_cells hr0 (by simp)
      exact Tryd.strings_Join bk o c0 (x :: t) a1 w hc hbk hb.1 hc0 hb.2
    · cases h


end Go.Proofs.YtgabcckljhnocaaDoor.Q
end
section
namespace Go.Proofs.YtgabcckljhnocaaDoor.Q
open Go.RowKit Go.Proofs.YtgabcckljhnocaaDoorW.PrintWords Go.Proofs.YtgabcckljhnocaaDoorW.PrintLast Go.Proofs.YtgabcckljhnocaaDoorW.PrintMore
attribute [local go_sem] max2_int min2_int max_two min_two max_three min_three max_four min_four   -- for this text's walks alone
set_option linter.unusedVariables false
set_option linter.unusedSimpArgs false

/-! ### postriderlaw13_LinesValues: function 4 -/
mutual
def postriderlaw13_LinesValues.l0 : Nat → Int → List ByteArray → List ByteArray → List ByteArray → Int → Int → Option (Bool)
 | 0, _, _, _, _, _, _ => none
 | k + 1, x1, x5, x6, x20, x21, x22 => if x22 < x21 then (if 0 ≤ x22 then (if x22 < (x20.length : Int) then (if x22 < 20 then (if 0 ≤ (mn ((rdOf ByteArray.empty x20 x22).size : Int) 60) then (if (mn ((rdOf ByteArray.empty x20 x22).size : Int) 60) ≤ ((rdOf ByteArray.empty x20 x22).size : Int) then ((postriderlaw13_printed.f k ((rdOf ByteArray.empty x20 x22).extract 0 ((mn ((rdOf ByteArray.empty x20 x22).size : Int) 60) : Int).toNat)).bind fun t274 => (if x5.length < 8796093022208 then ((lines_Quote.f k t274).bind fun t278 => (if x6.length < 8796093022208 then (postriderlaw13_LinesValues.l0 k x1 (x5 ++ [t274]) (x6 ++ [t278]) x20 x21 (wrap64 (x22 + 1))) else (none))) else (none))) else (none)) else (none)) else (postriderlaw13_LinesValues.l0 k x1 x5 x6 x20 x21 (wrap64 (x22 + 1)))) else (none)) else (none)) else (if (x5.length : Int) = 0 then ((strings_Repeat.f (⟨#[32]⟩ : ByteArray) (wrap64 (Int.tmod x1 5))).bind fun t282 => ((lines_Values.f k t282).bind fun bt283 => (if bt283.2 = 5 then ((postriderlaw13_wakes.f k).bind fun t287 => (some t287)) else (some false)))) else ((strings_Repeat.f (⟨#[32]⟩ : ByteArray) (wrap64 (Int.tmod x1 3))).bind fun t288 => (if t288.size + 1 ≤ 9223372036854775807 then (if (t288 ++ (⟨#[44]⟩ : ByteArray)).size + t288.size ≤ 9223372036854775807 then ((strings_Join.f x6 ((t288 ++ (⟨#[44]⟩ : ByteArray)) ++ t288)).bind fun t289 => (if t288.size + t289.size ≤ 9223372036854775807 then (if (t288 ++ t289).size + t288.size ≤ 9223372036854775807 then ((lines_Values.f k ((t288 ++ t289) ++ t288)).bind fun bt290 => (if (x5.length : Int) > 16 then (if bt290.2 = 7 then (if (bt290.1.length : Int) = 0 then ((postriderlaw13_wakes.f k).bind fun t294 => (some t294)) else (some false)) else (some false)) else (if bt290.2 = 0 then ((slices_Equal_string_string.f k bt290.1 x5).bind fun t295 => (postriderlaw13_LinesValues.j1 k ((t288 ++ t289) ++ t288) (!t295))) else (postriderlaw13_LinesValues.j1 k ((t288 ++ t289) ++ t288) true)))) else (none)) else (none))) else (none)) else (none))))
def postriderlaw13_LinesValues.j1 : Nat → ByteArray → Bool → Option (Bool)
 | 0, _, _ => none
 | k + 1, x13, x100 => if x100 = true then (some false) else (if x13.size + 1 ≤ 9223372036854775807 then (if 1 + x13.size ≤ 9223372036854775807 then (if x13.size + 4 ≤ 9223372036854775807 then (if x13.size + 5 ≤ 9223372036854775807 then (if x13.size + 7 ≤ 9223372036854775807 then (postriderlaw13_LinesValues.l1 k 0 (x13 ++ (⟨#[44]⟩ : ByteArray)) ((⟨#[44]⟩ : ByteArray) ++ x13) (x13 ++ (⟨#[44, 32, 34, 120]⟩ : ByteArray)) (x13 ++ (⟨#[44, 32, 120, 34, 121]⟩ : ByteArray)) (x13 ++ (⟨#[44, 32, 34, 120, 34, 32, 121]⟩ : ByteArray)) (x13 ++ (⟨#[1]⟩ : ByteArray))) else (none)) else (none)) else (none)) else (none)) else (none))
def postriderlaw13_LinesValues.l1 : Nat → Int → ByteArray → ByteArray → ByteArray → ByteArray → ByteArray → ByteArray → Option (Bool)
 | 0, _, _, _, _, _, _, _ => none
 | k + 1, x114, x900, x901, x902, x903, x904, x905 => if x114 < 6 then (if x114 = 0 then ((lines_Values.f k x900).bind fun bt296 => (if bt296.2 = 5 then (postriderlaw13_LinesValues.l1 k (0 + 1) x900 x901 x902 x903 x904 x905) else (some false))) else (if x114 = 1 then ((lines_Values.f k x901).bind fun bt300 => (if bt300.2 = 5 then (postriderlaw13_LinesValues.l1 k (1 + 1) x900 x901 x902 x903 x904 x905) else (some false))) else (if x114 = 2 then ((lines_Values.f k x902).bind fun bt304 => (if bt304.2 = 5 then (postriderlaw13_LinesValues.l1 k (2 + 1) x900 x901 x902 x903 x904 x905) else (some false))) else (if x114 = 3 then ((lines_Values.f k x903).bind fun bt308 => (if bt308.2 = 5 then (postriderlaw13_LinesValues.l1 k (3 + 1) x900 x901 x902 x903 x904 x905) else (some false))) else (if x114 = 4 then ((lines_Values.f k x904).bind fun bt312 => (if bt312.2 = 5 then (postriderlaw13_LinesValues.l1 k (4 + 1) x900 x901 x902 x903 x904 x905) else (some false))) else (if x114 = 5 then ((lines_Values.f k x905).bind fun bt316 => (if bt316.2 = 5 then (postriderlaw13_LinesValues.l1 k (5 + 1) x900 x901 x902 x903 x904 x905) else (some false))) else (none))))))) else ((postriderlaw13_wakes.f k).bind fun t320 => (some t320))
end
def postriderlaw13_LinesValues.f (k : Nat) (l0 : List ByteArray) (a1 : Int) : Option (Bool) := postriderlaw13_LinesValues.l0 k a1 ([] : List ByteArray) ([] : List ByteArray) l0 (l0.length : Int) 0
theorem postriderlaw13_LinesValues.mono_l : ∀ k, (∀ y0 y1 y2 y3 y4 y5, LeO (postriderlaw13_LinesValues.l0 k y0 y1 y2 y3 y4 y5) (postriderlaw13_LinesValues.l0 (k + 1) y0 y1 y2 y3 y4 y5)) ∧ (∀ y0 y1, LeO (postriderlaw13_LinesValues.j1 k y0 y1) (postriderlaw13_LinesValues.j1 (k + 1) y0 y1)) ∧ (∀ y0 y1 y2 y3 y4 y5 y6, LeO (postriderlaw13_LinesValues.l1 k y0 y1 y2 y3 y4 y5 y6) (postriderlaw13_LinesValues.l1 (k + 1) y0 y1 y2 y3 y4 y5 y6))
 | 0 => ⟨fun _ _ _ _ _ _ r h => by simp [postriderlaw13_LinesValues.l0] at h, fun _ _ r h => by simp [postriderlaw13_LinesValues.j1] at h, fun _ _ _ _ _ _ _ r h => by simp [postriderlaw13_LinesValues.l1] at h⟩
 | k + 1 => by
  obtain ⟨ih0, ih1, ih2⟩ := postriderlaw13_LinesValues.mono_l k
  refine ⟨?_, ?_, ?_⟩
  ·intro y0 y1 y2 y3 y4 y5
   unfold postriderlaw13_LinesValues.l0
   repeat' first
   | (with_reducible exact ih0 _ _ _ _ _ _)
   | (with_reducible exact ih1 _ _)
   | (with_reducible exact ih2 _ _ _ _ _ _ _)
   | (with_reducible exact lines_Quote.mono _ _)
   | (with_reducible exact lines_Values.mono _ _)
   | (with_reducible exact postriderlaw13_printed.mono _ _)
   | (with_reducible exact postriderlaw13_wakes.mono _)
   | (with_reducible exact slices_Equal_string_string.mono _ _ _)
   | (with_reducible exact LeO.refl _)
   | (with_reducible exact LeO.none _)
   | (with_reducible refine LeO.ite ?_ ?_)
   | (with_reducible refine LeO.bind ?_ (fun _ => ?_))
   | exact ih0 _ _ _ _ _ _
   | exact ih1 _ _
   | exact ih2 _ _ _ _ _ _ _
   | exact lines_Quote.mono _ _
   | exact lines_Values.mono _ _
   | exact postriderlaw13_printed.mono _ _
   | exact postriderlaw13_wakes.mono _
   | exact slices_Equal_string_string.mono _ _ _
   | exact LeO.none _
   | refine LeO.ite ?_ ?_
   | refine LeO.bind ?_ (fun _ => ?_)
  ·intro y0 y1
   unfold postriderlaw13_LinesValues.j1
   repeat' first
   | (with_reducible exact ih0 _ _ _ _ _ _)
   | (with_reducible exact ih1 _ _)
   | (with_reducible exact ih2 _ _ _ _ _ _ _)
   | (with_reducible exact lines_Quote.mono _ _)
   | (with_reducible exact lines_Values.mono _ _)
   | (with_reducible exact postriderlaw13_printed.mono _ _)
   | (with_reducible exact postriderlaw13_wakes.mono _)
   | (with_reducible exact slices_Equal_string_string.mono _ _ _)
   | (with_reducible exact LeO.refl _)
   | (with_reducible exact LeO.none _)
   | (with_reducible refine LeO.ite ?_ ?_)
   | (with_reducible refine LeO.bind ?_ (fun _ => ?_))
   | exact ih0 _ _ _ _ _ _
   | exact ih1 _ _
   | exact ih2 _ _ _ _ _ _ _
   | exact lines_Quote.mono _ _
   | exact lines_Values.mono _ _
   | exact postriderlaw13_printed.mono _ _
   | exact postriderlaw13_wakes.mono _
   | exact slices_Equal_string_string.mono _ _ _
   | exact LeO.none _
   | refine LeO.ite ?_ ?_
   | refine LeO.bind ?_ (fun _ => ?_)
  ·intro y0 y1 y2 y3 y4 y5 y6
   unfold postriderlaw13_LinesValues.l1
   repeat' first
   | (with_reducible exact ih0 _ _ _ _ _ _)
   | (with_reducible exact ih1 _ _)
   | (with_reducible exact ih2 _ _ _ _ _ _ _)
   | (with_reducible exact lines_Quote.mono _ _)
   | (with_reducible exact lines_Values.mono _ _)
   | (with_reducible exact postriderlaw13_printed.mono _ _)
   | (with_reducible exact postriderlaw13_wakes.mono _)
   | (with_reducible exact slices_Equal_string_string.mono _ _ _)
   | (with_reducible exact LeO.refl _)
   | (with_reducible exact LeO.none _)
   | (with_reducible refine LeO.ite ?_ ?_)
   | (with_reducible refine LeO.bind ?_ (fun _ => ?_))
   | exact ih0 _ _ _ _ _ _
   | exact ih1 _ _
   | exact ih2 _ _ _ _ _ _ _
   | exact lines_Quote.mono _ _
   | exact lines_Values.mono _ _
   | exact postriderlaw13_printed.mono _ _
   | exact postriderlaw13_wakes.mono _
   | exact slices_Equal_string_string.mono _ _ _
   | exact LeO.none _
   | refine LeO.ite ?_ ?_
   | refine LeO.bind ?_ (fun _ => ?_)
theorem postriderlaw13_LinesValues.mono : ∀ a0 a1 k, LeO (postriderlaw13_LinesValues.f k a0 a1) (postriderlaw13_LinesValues.f (k + 1) a0 a1) := by
 intro a0 a1 k
 obtain ⟨ih0, ih1, ih2⟩ := postriderlaw13_LinesValues.mono_l k
 unfold postriderlaw13_LinesValues.f
 repeat' first
   | (with_reducible exact ih0 _ _ _ _ _ _)
   | (with_reducible exact ih1 _ _)
   | (with_reducible exact ih2 _ _ _ _ _ _ _)
   | (with_reducible exact lines_Quote.mono _ _)
   | (with_reducible exact lines_Values.mono _ _)
   | (with_reducible exact postriderlaw13_printed.mono _ _)
   | (with_reducible exact postriderlaw13_wakes.mono _)
   | (with_reducible exact slices_Equal_string_string.mono _ _ _)
   | (with_reducible exact LeO.refl _)
   | (with_reducible exact LeO.none _)
   | (with_reducible refine LeO.ite ?_ ?_)
   | (with_reducible refine LeO.bind ?_ (fun _ => ?_))
   | exact ih0 _ _ _ _ _ _
   | exact ih1 _ _
   | exact ih2 _ _ _ _ _ _ _
   | exact lines_Quote.mono _ _
   | exact lines_Values.mono _ _
   | exact postriderlaw13_printed.mono _ _
   | exact postriderlaw13_wakes.mono _
   | exact slices_Equal_string_string.mono _ _ _
   | exact LeO.none _
   | refine LeO.ite ?_ ?_
   | refine LeO.bind ?_ (fun _ => ?_)
set_option maxHeartbeats 8000000 in
set_option maxRecDepth 100000 in
theorem postriderlaw13_LinesValues.calls (k : Nat) (A0 : Option Addr) (c0 : Nat) (l0 : List ByteArray) (a1 : Int) (r : Bool) (w : World) (hr0 : Kd.C Kd.string w A0 l0.length l0) (hc0 : l0.length ≤ c0) (hG : Glob w) (hT : r = true) (h : postriderlaw13_LinesValues.f k l0 a1 = some r) :
  Calls Tryd.prog 4 #[.slice A0 l0.length c0, .int .u8 a1] w fun e w' => e = .returned (.bool r) ∧ Below w.heap.size w w' := by
 have hu37 := Tryd.underlying37
 have HR0 := Aside0.mk hr0
 have HC0 := Aside0.mk hc0
 clear hr0 hc0
 have HB := Aside0.mk (Below.refl w.heap.size w)
 have HG := Aside0.mk hG
 clear hG
 have HT_r := Aside0.mk hT
 clear hT
 have H : (postriderlaw13_LinesValues.l0 k a1 ([] : List ByteArray) ([] : List ByteArray) l0 (l0.length : Int) 0) = some r := h
 clear h
 have H' := Aside0.mk H
 clear H
 go_enter Tryd.func4, Tryd.ntmps4
 go_wp2
 go_loopg [5, 6, 22] k (fun kq v5 v6 v22 w' => ∃ (x5_1 : List ByteArray) (x6_1 : List ByteArray) (x22_1 : Int), v22 = .int .i64 x22_1 ∧ Aside0 (postriderlaw13_LinesValues.l0 kq a1 x5_1 x6_1 l0 (l0.length : Int) x22_1 = some r) ∧ Aside0 (kq ≤ k) ∧ Aside0 (Kd.R Kd.string 9 w' w.heap.size (fun k_ => some k_ ≠ (v6 : Value).ownBlock) v5 x5_1) ∧ Aside0 (Kd.R Kd.string 9 w' w.heap.size (fun k_ => some k_ ≠ (v5 : Value).ownBlock) v6 x6_1) ∧ Aside0 (Below w.heap.size w w'))
 case atStart => exact ⟨(([] : List ByteArray)), (([] : List ByteArray)), (0), (by first | rfl | (simp; done) | (simp [*]; done)), H', ⟨Nat.le_refl _⟩, ⟨by first | exact Kd.R_nil _ _ _ _ _ | exact Kd.N_nil _ _ _ _ _ | exact Kd.V_nil _ _ _ _ _ | exact Kd.Q_nil _ _ _ _ _ | exact Kd.S_nil _ _ _ _ _⟩, ⟨by first | exact Kd.R_nil _ _ _ _ _ | exact Kd.N_nil _ _ _ _ _ | exact Kd.V_nil _ _ _ _ _ | exact Kd.Q_nil _ _ _ _ _ | exact Kd.S_nil _ _ _ _ _⟩, ⟨by repeat (first | (with_reducible first | exact HB.out | apply below_alloc | apply pw_below_drewN | apply below_drew1) | exact HB.out)⟩⟩
 case round =>
  clear H'
  try clear p2
  obtain ⟨x5_1, x6_1, x22_1, rfl, HA, HK1, HO_5, HO_6, HB⟩ := hrel
  cases gk with
  | zero => exact absurd HA.out (by simp [postriderlaw13_LinesValues.l0])
  | succ k1 =>
   have H := HA.out
   clear HA
   simp only [postriderlaw13_LinesValues.l0] at H
   by_cases c3 : x22_1 < (l0.length : Int)
   ·rw [if_pos c3] at H
    have c3b0 : decide (x22_1 < (l0.length : Int)) = true := decide_eq_true c3
    clear c3
    by_cases c4 : 0 ≤ x22_1
    ·rw [if_pos c4] at H
     have c4b0 : decide (0 ≤ x22_1) = true := decide_eq_true c4
     clear c4
     by_cases c5 : x22_1 < (l0.length : Int)
     ·rw [if_pos c5] at H
      have c5b0 : decide (x22_1 < (l0.length : Int)) = true := decide_eq_true c5
      clear c5
      by_cases c6 : x22_1 < 20
      ·rw [if_pos c6] at H
       have c6b0 : decide (x22_1 < 20) = true := decide_eq_true c6
       clear c6
       obtain ⟨ji7, hji7⟩ : ∃ j_ : Int, (mn ((rdOf ByteArray.empty l0 x22_1).size : Int) 60) = j_ := ⟨_, rfl⟩
       replace H : (if 0 ≤ (ji7) then (if (ji7) ≤ ((rdOf ByteArray.empty l0 x22_1).size : Int) then ((postriderlaw13_printed.f k1 ((rdOf ByteArray.empty l0 x22_1).extract 0 ((ji7) : Int).toNat)).bind fun t274 => (if x5_1.length < 8796093022208 then ((lines_Quote.f k1 t274).bind fun t278 => (if x6_1.length < 8796093022208 then (postriderlaw13_LinesValues.l0 k1 a1 (x5_1 ++ [t274]) (x6_1 ++ [t278]) l0 (l0.length : Int) (wrap64 (x22_1 + 1))) else (none))) else (none))) else (none)) else (none)) = some r := by first | (rw [hji7] at H; exact H) | (simp only [hji7] at H ⊢; exact H)
       have hji7_ : (if 60 < ((rdOf ByteArray.empty l0 x22_1).size : Int) then 60 else ((rdOf ByteArray.empty l0 x22_1).size : Int)) = ji7 := hji7
       by_cases c8 : 0 ≤ (ji7)
       ·rw [if_pos c8] at H
        have c8b0 := eq_true c8
        have c8b1 : decide (0 ≤ (ji7)) = true := decide_eq_true c8
        clear c8
        by_cases c9 : (ji7) ≤ ((rdOf ByteArray.empty l0 x22_1).size : Int)
        ·rw [if_pos c9] at H
         have c9b0 := eq_true c9
         have c9b1 : decide ((ji7) ≤ ((rdOf ByteArray.empty l0 x22_1).size : Int)) = true := decide_eq_true c9
         clear c9
         obtain ⟨js10, hjs10⟩ : ∃ j_ : ByteArray, ((rdOf ByteArray.empty l0 x22_1).extract 0 ((ji7) : Int).toNat) = j_ := ⟨_, rfl⟩
         replace H : ((postriderlaw13_printed.f k1 js10).bind fun t274 => (if x5_1.length < 8796093022208 then ((lines_Quote.f k1 t274).bind fun t278 => (if x6_1.length < 8796093022208 then (postriderlaw13_LinesValues.l0 k1 a1 (x5_1 ++ [t274]) (x6_1 ++ [t278]) l0 (l0.length : Int) (wrap64 (x22_1 + 1))) else (none))) else (none))) = some r := by first | (rw [hjs10] at H; exact H) | (simp only [hjs10] at H ⊢; exact H)
         replace H := Option.bind_eq_some_iff.mp H
         obtain ⟨t274, A110, H⟩ := H
         replace H : (if x5_1.length < 8796093022208 then ((lines_Quote.f k1 t274).bind fun t278 => (if x6_1.length < 8796093022208 then (postriderlaw13_LinesValues.l0 k1 a1 (x5_1 ++ [t274]) (x6_1 ++ [t278]) l0 (l0.length : Int) (wrap64 (x22_1 + 1))) else (none))) else (none)) = some r := H
         have A11 := Aside0.mk A110
         clear A110
         by_cases c12 : x5_1.length < 8796093022208
         ·rw [if_pos c12] at H
          have LMc12 := Aside0.mk c12
          clear c12
          obtain ⟨y275, hy275⟩ : ∃ y_ : List ByteArray, y_ = (x5_1 ++ [t274]) := ⟨_, rfl⟩
          replace H : ((lines_Quote.f k1 t274).bind fun t278 => (if x6_1.length < 8796093022208 then (postriderlaw13_LinesValues.l0 k1 a1 y275 (x6_1 ++ [t278]) l0 (l0.length : Int) (wrap64 (x22_1 + 1))) else (none))) = some r := by first | (rw [hy275]; with_reducible exact H) | (have H2_ := (Option.bind_some _ _).symm.trans H; rw [hy275]; with_reducible exact H2_) | (have H2_ := (Option.bind_some _ _).symm.trans H; with_reducible exact H2_) | with_reducible exact H | (rw [hy275]; exact H) | exact H
          have Ny275 := Aside0.mk hy275
          clear hy275
          replace H := Option.bind_eq_some_iff.mp H
          obtain ⟨t278, A130, H⟩ := H
          replace H : (if x6_1.length < 8796093022208 then (postriderlaw13_LinesValues.l0 k1 a1 y275 (x6_1 ++ [t278]) l0 (l0.length : Int) (wrap64 (x22_1 + 1))) else (none)) = some r := H
          have A13 := Aside0.mk A130
          clear A130
          by_cases c14 : x6_1.length < 8796093022208
          ·rw [if_pos c14] at H
           have LMc14 := Aside0.mk c14
           clear c14
           obtain ⟨y279, hy279⟩ : ∃ y_ : List ByteArray, y_ = (x6_1 ++ [t278]) := ⟨_, rfl⟩
           replace H : (postriderlaw13_LinesValues.l0 k1 a1 y275 y279 l0 (l0.length : Int) (wrap64 (x22_1 + 1))) = some r := by first | (rw [hy279]; with_reducible exact H) | (have H2_ := (Option.bind_some _ _).symm.trans H; rw [hy279]; with_reducible exact H2_) | (have H2_ := (Option.bind_some _ _).symm.trans H; with_reducible exact H2_) | with_reducible exact H | (rw [hy279]; exact H) | exact H
           have Ny279 := Aside0.mk hy279
           clear hy279
           have H' := Aside0.mk H
           clear H
           have p273 : 0 ≤ (x22_1 : Int) := od
           have q273 : x22_1 < (l0.length : Int) := od
           obtain ⟨ad273, e273, hx273_0⟩ := Kd.at_string HR0.out x22_1 p273 q273
           cases e273
           replace hx273_0 := (HB.out.cell (World.block_lt_of_cell? w _ hx273_0)).trans hx273_0
           replace p273 := eq_true p273
           replace q273 := eq_true q273
           go_wp2_with (first | ((with_reducible refine gate_callee (f := 7) rfl ?_); refine goesL_ (some 34) rfl rfl Tryd.func7 (by kernel_rfl) rfl #[.string js10] rfl ml ?_; (with_reducible refine (postriderlaw13_printed.calls k1 js10 t274 _ A11.out).mono ?_); rintro e w15 ⟨rfl, hb⟩; refine ⟨_, rfl, ?_⟩; have n0_ := Aside0.mk (Kd.R_below (kr HO_5.out) hb); have n1_ := Aside0.mk (Kd.R_below (kr HO_6.out) hb); have n2_ := Aside0.mk (below_step bl hb); clear HO_5; clear HO_6; clear HB; have HO_5 := n0_; have HO_6 := n1_; have HB := n2_; clear n0_ n1_ n2_; (try clear hb); (try clear hb2); (try clear hk); (try clear hi)) | ((with_reducible refine gate_builtin (b := .append) (xs := #[.tmp 35, .tmp 37]) rfl ?_); (try (refine gate_guard (by rfl) ?_; dsimp only)); at_builtin; refine Kd.R_append Kd.string (w0 := w) w.heap.size rfl (.tmp 35) (.tmp 37) 26 9 (.string ⟨#[]⟩) 16 rfl Tryd.underlying26 info9 rfl (by decide) (by omega) u5 x5_1 t274 [.string t274] (fun k_ => some k_ ≠ (u6 : Value).ownBlock) (fun _ => False) rfl rfl ?aP (fun _ hk => hk.elim) ?aF ?aO ?aB ?aS ?aL ?_; (case aP => exact rfl); (case aB => exact bl); (case aF => exact (fun k_ hk => Kd.fresh' (Kd.R_lt (kr HO_6.out)) k_ hk)); (case aO => exact (kr HO_5.out)); (case aS => exact (below_size bl)); (case aL => have := LMc12.out; omega); intro v276 w16 ho hb hg hat; rw [← Ny275.out] at ho; have n0_ := Aside0.mk (Kd.R_after (ok := (fun _ => True)) (by (with_reducible repeat (first | apply Kd.R_alloc | apply Kd.R_drewN | apply Kd.R_drew)); exact Kd.R_mono HO_6.out (fun _ hk => ⟨trivial, hk⟩)) hg hat); have n1_ := Aside0.mk (hb); have n2_ := Aside0.mk (ho); clear HO_6; clear HB; clear HO_5; have HO_6 := n0_; have HB := n1_; have HO277 := n2_; clear n0_ n1_ n2_; clear ho hb hg hat) | ((with_reducible refine gate_callee (f := 15) rfl ?_); refine goesL_ (some 41) rfl rfl Tryd.func15 (by kernel_rfl) rfl #[.string t274] rfl ml ?_; (with_reducible refine (lines_Quote.calls k1 t274 t278 _ A13.out).mono ?_); rintro e w17 ⟨rfl, hb⟩; refine ⟨_, rfl, ?_⟩; have n0_ := Aside0.mk (Kd.R_below (kr HO_6.out) hb); have n1_ := Aside0.mk (Kd.R_below (kr HO277.out) hb); have n2_ := Aside0.mk (below_step bl hb); clear HO_6; clear HO277; clear HB; have HO_6 := n0_; have HO277 := n1_; have HB := n2_; clear n0_ n1_ n2_; (try clear hb); (try clear hb2); (try clear hk); (try clear hi)) | ((with_reducible refine gate_builtin (b := .append) (xs := #[.tmp 39, .tmp 42]) rfl ?_); (try (refine gate_guard (by rfl) ?_; dsimp only)); at_builtin; refine Kd.R_append Kd.string (w0 := w) w.heap.size rfl (.tmp 39) (.tmp 42) 26 9 (.string ⟨#[]⟩) 16 rfl Tryd.underlying26 info9 rfl (by decide) (by omega) u6 x6_1 t278 [.string t278] (fun k_ => some k_ ≠ (v276 : Value).ownBlock) (fun _ => False) rfl rfl ?aP (fun _ hk => hk.elim) ?aF ?aO ?aB ?aS ?aL ?_; (case aP => exact rfl); (case aB => exact bl); (case aF => exact (fun k_ hk => Kd.fresh' (Kd.R_lt (kr HO277.out)) k_ hk)); (case aO => exact (by (with_reducible repeat (first | apply Kd.R_alloc | apply Kd.R_drewN | apply Kd.R_drew)); exact Kd.R_mono HO_6.out (fun _ hk => hk.2))); (case aS => exact (below_size bl)); (case aL => have := LMc14.out; omega); intro v280 w18 ho hb hg hat; rw [← Ny279.out] at ho; have n0_ := Aside0.mk (Kd.R_after (ok := (fun _ => True)) (by (with_reducible repeat (first | apply Kd.R_alloc | apply Kd.R_drewN | apply Kd.R_drew)); exact Kd.R_mono HO277.out (fun _ hk => ⟨trivial, hk⟩)) hg hat); have n1_ := Aside0.mk (hb); have n2_ := Aside0.mk (ho); clear HO277; clear HB; clear HO_6; have HO277 := n0_; have HB := n1_; have HO281 := n2_; clear n0_ n1_ n2_; clear ho hb hg hat))
           go_roundg k1
           case measure => have := HK1.out; omega
           case rel => exact ⟨(y275), (y279), (wrap64 (x22_1 + 1)), (by first | rfl | (simp; done) | (simp [*]; done)), H', ⟨by have := HK1.out; omega⟩, ⟨by (with_reducible repeat (first | apply Kd.R_alloc | apply Kd.R_drewN | apply Kd.R_drew)); exact Kd.R_mono HO277.out (fun _ hk => hk.2)⟩, ⟨by (with_reducible repeat (first | apply Kd.R_alloc | apply Kd.R_drewN | apply Kd.R_drew)); exact HO281.out⟩, ⟨by repeat (first | (with_reducible first | exact HB.out | apply below_alloc | apply pw_below_drewN | apply below_drew1) | exact HB.out)⟩⟩
          ·rw [if_neg c14] at H
           exact absurd H (by simp)
         ·rw [if_neg c12] at H
          exact absurd H (by simp)
        ·rw [if_neg c9] at H
         exact absurd H (by simp)
       ·rw [if_neg c8] at H
        exact absurd H (by simp)
      ·rw [if_neg c6] at H
       have c6b0 : decide (x22_1 < 20) = false := decide_eq_false c6
       clear c6
       have H' := Aside0.mk H
       clear H
       have p273 : 0 ≤ (x22_1 : Int) := od
       have q273 : x22_1 < (l0.length : Int) := od
       obtain ⟨ad273, e273, hx273_0⟩ := Kd.at_string HR0.out x22_1 p273 q273
       cases e273
       replace hx273_0 := (HB.out.cell (World.block_lt_of_cell? w _ hx273_0)).trans hx273_0
       replace p273 := eq_true p273
       replace q273 := eq_true q273
       go_wp2
       go_roundg k1
       case measure => have := HK1.out; omega
       case rel => exact ⟨(x5_1), (x6_1), (wrap64 (x22_1 + 1)), (by first | rfl | (simp; done) | (simp [*]; done)), H', ⟨by have := HK1.out; omega⟩, ⟨by (with_reducible repeat (first | apply Kd.R_alloc | apply Kd.R_drewN | apply Kd.R_drew)); exact HO_5.out⟩, ⟨by (with_reducible repeat (first | apply Kd.R_alloc | apply Kd.R_drewN | apply Kd.R_drew)); exact HO_6.out⟩, ⟨by repeat (first | (with_reducible first | exact HB.out | apply below_alloc | apply pw_below_drewN | apply below_drew1) | exact HB.out)⟩⟩
     ·rw [if_neg c5] at H
      exact absurd H (by simp)
    ·rw [if_neg c4] at H
     exact absurd H (by simp)
   ·rw [if_neg c3] at H
    have c3b0 : decide (x22_1 < (l0.length : Int)) = false := decide_eq_false c3
    clear c3
    by_cases c19 : (x5_1.length : Int) = 0
    ·rw [if_pos c19] at H
     have c19b0 : ((x5_1.length : Int) == 0) = true := beq_iff_eq.mpr c19
     have c19b1 : ((x5_1.length : Int) != 0) = false := bne_eq_false_iff_eq.mpr c19
     clear c19
     replace H := Option.bind_eq_some_iff.mp H
     obtain ⟨t282, A200, H⟩ := H
     replace H : ((lines_Values.f k1 t282).bind fun bt283 => (if bt283.2 = 5 then ((postriderlaw13_wakes.f k1).bind fun t287 => (some t287)) else (some false))) = some r := H
     have A20 := Aside0.mk A200
     clear A200
     replace H := Option.bind_eq_some_iff.mp H
     obtain ⟨⟨t283, t284⟩, A210, H⟩ := H
     replace H : (if t284 = 5 then ((postriderlaw13_wakes.f k1).bind fun t287 => (some t287)) else (some false)) = some r := H
     have A21 := Aside0.mk A210
     clear A210
     by_cases c22 : t284 = 5
     ·rw [if_pos c22] at H
      have c22b0 : (t284 == 5) = true := beq_iff_eq.mpr c22
      have c22b1 : (t284 != 5) = false := bne_eq_false_iff_eq.mpr c22
      clear c22
      replace H := Option.bind_eq_some_iff.mp H
      obtain ⟨t287, A230, H⟩ := H
      replace H : (some t287) = some r := H
      have A23 := Aside0.mk A230
      clear A230
      obtain rfl := Option.some.inj H
      obtain ⟨Ao24, co24, eo24⟩ := Kd.R_slice HO_5.out
      subst eo24
      go_wp2_with (first | ((with_reducible refine gate_callee (f := 17) rfl ?_); refine goesL_ (some 52) rfl rfl Tryd.func17 (by kernel_rfl) rfl #[.string (⟨#[32]⟩ : ByteArray), .int .i64 (wrap64 (Int.tmod a1 5))] rfl ml ?_; (with_reducible refine (strings_Repeat.calls (⟨#[32]⟩ : ByteArray) (wrap64 (Int.tmod a1 5)) t282 _ A20.out).mono ?_); rintro e w25 ⟨rfl, hb⟩; refine ⟨_, rfl, ?_⟩; have n0_ := Aside0.mk (Kd.R_below (kr HO_5.out) hb); have n1_ := Aside0.mk (Kd.R_below (kr HO_6.out) hb); have n2_ := Aside0.mk (below_step bl hb); clear HO_5; clear HO_6; clear HB; have HO_5 := n0_; have HO_6 := n1_; have HB := n2_; clear n0_ n1_ n2_; (try clear hb); (try clear hb2); (try clear hk); (try clear hi)) | ((with_reducible refine gate_callee (f := 16) rfl ?_); refine goesL_ (some 53) rfl rfl Tryd.func16 (by kernel_rfl) rfl #[.string t282] rfl ml ?_; (with_reducible refine (lines_Values.calls k1 t282 t283 t284 _ ?side1 A21.out).mono ?_); (case side1 => exact Glob.below HG.out bl); rintro e w26 ⟨v285, rfl, ho0, hb⟩; refine ⟨_, rfl, ?_⟩; have n0_ := Aside0.mk (Kd.R_elder' (kr HO_5.out) (Kd.R_base ho0) hb); have n1_ := Aside0.mk (Kd.R_elder' (kr HO_6.out) (Kd.R_base ho0) hb); have n2_ := Aside0.mk (Kd.R_lower (Kd.R_new' (Kd.R_new' ho0 (Kd.R_lt (kr HO_5.out))) (Kd.R_lt (kr HO_6.out))) (below_size bl)); have n3_ := Aside0.mk (below_step bl hb); clear HO_5; clear HO_6; clear HB; have HO_5 := n0_; have HO_6 := n1_; have HO286 := n2_; have HB := n3_; clear n0_ n1_ n2_ n3_; (try clear hb); (try clear hb2); (try clear hk); (try clear hi); (try clear ho0)) | (go_at_call 14; (with_reducible refine (postriderlaw13_wakes.calls k1  t287 _ ?side1 ?side2 A23.out).mono ?_); (case side1 => exact Glob.below HG.out bl); (case side2 => first | rfl | exact HT_r.out); rintro e w27 ⟨rfl, hb⟩; have n0_ := Aside0.mk (Kd.R_below (kr HO_5.out) hb); have n1_ := Aside0.mk (Kd.R_below (kr HO_6.out) hb); have n2_ := Aside0.mk (Kd.R_below (kr HO286.out) hb); have n3_ := Aside0.mk (below_step bl hb); clear HO_5; clear HO_6; clear HO286; clear HB; have HO_5 := n0_; have HO_6 := n1_; have HO286 := n2_; have HB := n3_; clear n0_ n1_ n2_ n3_; (try clear hb); (try clear hb2); (try clear hk); (try clear hi)))
      go_ret
      exact ⟨by first | rfl | (simp [bneNil]; done) | (simp [errW_none, errW_some] <;> rfl) | (simp [*, errW_none, errW_some] <;> rfl), by repeat (first | (with_reducible first | exact HB.out | apply below_alloc | apply pw_below_drewN | apply below_drew1) | exact HB.out)⟩
     ·rw [if_neg c22] at H
      have c22b0 : (t284 == 5) = false := beq_eq_false_iff_ne.mpr c22
      have c22b1 : (t284 != 5) = true := bne_iff_ne.mpr c22
      exact absurd ((Option.some.inj H).trans HT_r.out) (by decide)
    ·rw [if_neg c19] at H
     have c19b0 : ((x5_1.length : Int) == 0) = false := beq_eq_false_iff_ne.mpr c19
     have c19b1 : ((x5_1.length : Int) != 0) = true := bne_iff_ne.mpr c19
     have c19b2 : ¬ (x5_1 = []) := fun h_ => c19 (by rw [h_]; rfl)
     replace H := Option.bind_eq_some_iff.mp H
     obtain ⟨t288, A280, H⟩ := H
     replace H : (if t288.size + 1 ≤ 9223372036854775807 then (if (t288 ++ (⟨#[44]⟩ : ByteArray)).size + t288.size ≤ 9223372036854775807 then ((strings_Join.f x6_1 ((t288 ++ (⟨#[44]⟩ : ByteArray)) ++ t288)).bind fun t289 => (if t288.size + t289.size ≤ 9223372036854775807 then (if (t288 ++ t289).size + t288.size ≤ 9223372036854775807 then ((lines_Values.f k1 ((t288 ++ t289) ++ t288)).bind fun bt290 => (if (x5_1.length : Int) > 16 then (if bt290.2 = 7 then (if (bt290.1.length : Int) = 0 then ((postriderlaw13_wakes.f k1).bind fun t294 => (some t294)) else (some false)) else (some false)) else (if bt290.2 = 0 then ((slices_Equal_string_string.f k1 bt290.1 x5_1).bind fun t295 => (postriderlaw13_LinesValues.j1 k1 ((t288 ++ t289) ++ t288) (!t295))) else (postriderlaw13_LinesValues.j1 k1 ((t288 ++ t289) ++ t288) true)))) else (none)) else (none))) else (none)) else (none)) = some r := H
     have A28 := Aside0.mk A280
     clear A280
     by_cases c29 : t288.size + 1 ≤ 9223372036854775807
     ·rw [if_pos c29] at H
      have c29b0 := eq_true c29
      have c29b1 : decide (t288.size + 1 ≤ 9223372036854775807) = true := decide_eq_true c29
      try have c29b2 : (9223372036854775807 < t288.size + 1) = False := eq_false (Nat.not_lt.2 c29)
      by_cases c30 : (t288 ++ (⟨#[44]⟩ : ByteArray)).size + t288.size ≤ 9223372036854775807
      ·rw [if_pos c30] at H
       have c30b0 := eq_true c30
       have c30b1 : decide ((t288 ++ (⟨#[44]⟩ : ByteArray)).size + t288.size ≤ 9223372036854775807) = true := decide_eq_true c30
       try have c30b2 : (9223372036854775807 < (t288 ++ (⟨#[44]⟩ : ByteArray)).size + t288.size) = False := eq_false (Nat.not_lt.2 c30)
       try (have c30b2y := c30b2; rw [ByteArray.size_append] at c30b2y)
       try have c30b2z : (9223372036854775807 < t288.size + 1 + t288.size) = False := eq_false (fun h_ => by have g_ := c30; simp only [ByteArray.size_append, show (⟨#[44]⟩ : ByteArray).size = 1 from rfl] at g_; omega)
       replace H := Option.bind_eq_some_iff.mp H
       obtain ⟨t289, A310, H⟩ := H
       replace H : (if t288.size + t289.size ≤ 9223372036854775807 then (if (t288 ++ t289).size + t288.size ≤ 9223372036854775807 then ((lines_Values.f k1 ((t288 ++ t289) ++ t288)).bind fun bt290 => (if (x5_1.length : Int) > 16 then (if bt290.2 = 7 then (if (bt290.1.length : Int) = 0 then ((postriderlaw13_wakes.f k1).bind fun t294 => (some t294)) else (some false)) else (some false)) else (if bt290.2 = 0 then ((slices_Equal_string_string.f k1 bt290.1 x5_1).bind fun t295 => (postriderlaw13_LinesValues.j1 k1 ((t288 ++ t289) ++ t288) (!t295))) else (postriderlaw13_LinesValues.j1 k1 ((t288 ++ t289) ++ t288) true)))) else (none)) else (none)) = some r := H
       have A31 := Aside0.mk A310
       clear A310
       by_cases c32 : t288.size + t289.size ≤ 9223372036854775807
       ·rw [if_pos c32] at H
        have c32b0 := eq_true c32
        have c32b1 : decide (t288.size + t289.size ≤ 9223372036854775807) = true := decide_eq_true c32
        try have c32b2 : (9223372036854775807 < t288.size + t289.size) = False := eq_false (Nat.not_lt.2 c32)
        by_cases c33 : (t288 ++ t289).size + t288.size ≤ 9223372036854775807
        ·rw [if_pos c33] at H
         have c33b0 := eq_true c33
         have c33b1 : decide ((t288 ++ t289).size + t288.size ≤ 9223372036854775807) = true := decide_eq_true c33
         try have c33b2 : (9223372036854775807 < (t288 ++ t289).size + t288.size) = False := eq_false (Nat.not_lt.2 c33)
         try (have c33b2y := c33b2; rw [ByteArray.size_append] at c33b2y)
         try have c33b2z : (9223372036854775807 < t288.size + t289.size + t288.size) = False := eq_false (fun h_ => by have g_ := c33; simp only [ByteArray.size_append] at g_; omega)
         replace H := Option.bind_eq_some_iff.mp H
         obtain ⟨⟨t290, t291⟩, A340, H⟩ := H
         replace H : (if (x5_1.length : Int) > 16 then (if t291 = 7 then (if (t290.length : Int) = 0 then ((postriderlaw13_wakes.f k1).bind fun t294 => (some t294)) else (some false)) else (some false)) else (if t291 = 0 then ((slices_Equal_string_string.f k1 t290 x5_1).bind fun t295 => (postriderlaw13_LinesValues.j1 k1 ((t288 ++ t289) ++ t288) (!t295))) else (postriderlaw13_LinesValues.j1 k1 ((t288 ++ t289) ++ t288) true))) = some r := H
         have A34 := Aside0.mk A340
         clear A340
         by_cases c35 : (x5_1.length : Int) > 16
         ·rw [if_pos c35] at H
          have c35b0 : decide (16 < (x5_1.length : Int)) = true := decide_eq_true c35
          have c35b1 : decide (16 < x5_1.length) = true := decide_eq_true (by omega)
          clear c35
          by_cases c36 : t291 = 7
          ·rw [if_pos c36] at H
           have c36b0 : (t291 == 7) = true := beq_iff_eq.mpr c36
           have c36b1 : (t291 != 7) = false := bne_eq_false_iff_eq.mpr c36
           clear c36
           by_cases c37 : (t290.length : Int) = 0
           ·rw [if_pos c37] at H
            have c37b0 : ((t290.length : Int) == 0) = true := beq_iff_eq.mpr c37
            have c37b1 : ((t290.length : Int) != 0) = false := bne_eq_false_iff_eq.mpr c37
            clear c37
            replace H := Option.bind_eq_some_iff.mp H
            obtain ⟨t294, A380, H⟩ := H
            replace H : (some t294) = some r := H
            have A38 := Aside0.mk A380
            clear A380
            obtain rfl := Option.some.inj H
            obtain ⟨Ao39, co39, eo39⟩ := Kd.R_slice HO_5.out
            subst eo39
            go_wp2_with (first | ((with_reducible refine gate_callee (f := 17) rfl ?_); refine goesL_ (some 64) rfl rfl Tryd.func17 (by kernel_rfl) rfl #[.string (⟨#[32]⟩ : ByteArray), .int .i64 (wrap64 (Int.tmod a1 3))] rfl ml ?_; (with_reducible refine (strings_Repeat.calls (⟨#[32]⟩ : ByteArray) (wrap64 (Int.tmod a1 3)) t288 _ A28.out).mono ?_); rintro e w40 ⟨rfl, hb⟩; refine ⟨_, rfl, ?_⟩; have n0_ := Aside0.mk (Kd.R_below (kr HO_5.out) hb); have n1_ := Aside0.mk (Kd.R_below (kr HO_6.out) hb); have n2_ := Aside0.mk (below_step bl hb); clear HO_5; clear HO_6; clear HB; have HO_5 := n0_; have HO_6 := n1_; have HB := n2_; clear n0_ n1_ n2_; (try clear hb); (try clear hb2); (try clear hk); (try clear hi); obtain ⟨Ao41, co41, eo41⟩ := Kd.R_slice HO_6.out; subst eo41) | ((with_reducible refine gate_callee (f := 18) rfl ?_); refine goesL_ (some 71) rfl rfl Tryd.func18 (by kernel_rfl) rfl #[.slice Ao41 x6_1.length co41, .string ((t288 ++ (⟨#[44]⟩ : ByteArray)) ++ t288)] rfl ml ?_; (with_reducible refine (strings_Join.calls _ _ x6_1 ((t288 ++ (⟨#[44]⟩ : ByteArray)) ++ t288) t289 _ ?side1 ?side2 A31.out).mono ?_); (case side1 => repeat (first | exact (Kd.R_reads' HO_6.out).2.2 | (with_reducible refine Kd.C_alloc ?_ _) | (with_reducible refine Kd.C_drewN ?_ _) | (with_reducible refine Kd.C_drew ?_))); (case side2 => exact (Kd.R_reads' HO_6.out).2.1); rintro e w42 ⟨rfl, hb⟩; refine ⟨_, rfl, ?_⟩; have n0_ := Aside0.mk (Kd.R_below (kr HO_5.out) hb); have n1_ := Aside0.mk (Kd.R_below (kr HO_6.out) hb); have n2_ := Aside0.mk (below_step bl hb); clear HO_5; clear HO_6; clear HB; have HO_5 := n0_; have HO_6 := n1_; have HB := n2_; clear n0_ n1_ n2_; (try clear hb); (try clear hb2); (try clear hk); (try clear hi)) | ((with_reducible refine gate_callee (f := 16) rfl ?_); refine goesL_ (some 77) rfl rfl Tryd.func16 (by kernel_rfl) rfl #[.string ((t288 ++ t289) ++ t288)] rfl ml ?_; (with_reducible refine (lines_Values.calls k1 ((t288 ++ t289) ++ t288) t290 t291 _ ?side1 A34.out).mono ?_); (case side1 => exact Glob.below HG.out bl); rintro e w43 ⟨v292, rfl, ho0, hb⟩; refine ⟨_, rfl, ?_⟩; have n0_ := Aside0.mk (Kd.R_elder' (kr HO_5.out) (Kd.R_base ho0) hb); have n1_ := Aside0.mk (Kd.R_elder' (kr HO_6.out) (Kd.R_base ho0) hb); have n2_ := Aside0.mk (Kd.R_lower (Kd.R_new' (Kd.R_new' ho0 (Kd.R_lt (kr HO_5.out))) (Kd.R_lt (kr HO_6.out))) (below_size bl)); have n3_ := Aside0.mk (below_step bl hb); clear HO_5; clear HO_6; clear HB; have HO_5 := n0_; have HO_6 := n1_; have HO293 := n2_; have HB := n3_; clear n0_ n1_ n2_ n3_; (try clear hb); (try clear hb2); (try clear hk); (try clear hi); (try clear ho0); obtain ⟨Ao44, co44, eo44⟩ := Kd.R_slice HO293.out; subst eo44) | (go_at_call 14; (with_reducible refine (postriderlaw13_wakes.calls k1  t294 _ ?side1 ?side2 A38.out).mono ?_); (case side1 => exact Glob.below HG.out bl); (case side2 => first | rfl | exact HT_r.out); rintro e w45 ⟨rfl, hb⟩; have n0_ := Aside0.mk (Kd.R_below (kr HO_5.out) hb); have n1_ := Aside0.mk (Kd.R_below (kr HO_6.out) hb); have n2_ := Aside0.mk (Kd.R_below (kr HO293.out) hb); have n3_ := Aside0.mk (below_step bl hb); clear HO_5; clear HO_6; clear HO293; clear HB; have HO_5 := n0_; have HO_6 := n1_; have HO293 := n2_; have HB := n3_; clear n0_ n1_ n2_ n3_; (try clear hb); (try clear hb2); (try clear hk); (try clear hi)))
            go_ret
            exact ⟨by first | rfl | (simp [bneNil]; done) | (simp [errW_none, errW_some] <;> rfl) | (simp [*, errW_none, errW_some] <;> rfl), by repeat (first | (with_reducible first | exact HB.out | apply below_alloc | apply pw_below_drewN | apply below_drew1) | exact HB.out)⟩
           ·rw [if_neg c37] at H
            have c37b0 : ((t290.length : Int) == 0) = false := beq_eq_false_iff_ne.mpr c37
            have c37b1 : ((t290.length : Int) != 0) = true := bne_iff_ne.mpr c37
            have c37b2 : ¬ (t290 = []) := fun h_ => c37 (by rw [h_]; rfl)
            exact absurd ((Option.some.inj H).trans HT_r.out) (by decide)
          ·rw [if_neg c36] at H
           have c36b0 : (t291 == 7) = false := beq_eq_false_iff_ne.mpr c36
           have c36b1 : (t291 != 7) = true := bne_iff_ne.mpr c36
           exact absurd ((Option.some.inj H).trans HT_r.out) (by decide)
         ·rw [if_neg c35] at H
          have c35b0 : decide (16 < (x5_1.length : Int)) = false := decide_eq_false c35
          have c35b1 : decide (16 < x5_1.length) = false := decide_eq_false (by omega)
          clear c35
          have HC46 := Aside0.mk H
          clear H
          obtain ⟨Ao47, co47, eo47⟩ := Kd.R_slice HO_5.out
          subst eo47
          go_upto_region 17 with (first | ((with_reducible refine gate_callee (f := 17) rfl ?_); refine goesL_ (some 64) rfl rfl Tryd.func17 (by kernel_rfl) rfl #[.string (⟨#[32]⟩ : ByteArray), .int .i64 (wrap64 (Int.tmod a1 3))] rfl ml ?_; (with_reducible refine (strings_Repeat.calls (⟨#[32]⟩ : ByteArray) (wrap64 (Int.tmod a1 3)) t288 _ A28.out).mono ?_); rintro e w48 ⟨rfl, hb⟩; refine ⟨_, rfl, ?_⟩; have n0_ := Aside0.mk (Kd.R_below (kr HO_5.out) hb); have n1_ := Aside0.mk (Kd.R_below (kr HO_6.out) hb); have n2_ := Aside0.mk (below_step bl hb); clear HO_5; clear HO_6; clear HB; have HO_5 := n0_; have HO_6 := n1_; have HB := n2_; clear n0_ n1_ n2_; (try clear hb); (try clear hb2); (try clear hk); (try clear hi); obtain ⟨Ao49, co49, eo49⟩ := Kd.R_slice HO_6.out; subst eo49) | ((with_reducible refine gate_callee (f := 18) rfl ?_); refine goesL_ (some 71) rfl rfl Tryd.func18 (by kernel_rfl) rfl #[.slice Ao49 x6_1.length co49, .string ((t288 ++ (⟨#[44]⟩ : ByteArray)) ++ t288)] rfl ml ?_; (with_reducible refine (strings_Join.calls _ _ x6_1 ((t288 ++ (⟨#[44]⟩ : ByteArray)) ++ t288) t289 _ ?side1 ?side2 A31.out).mono ?_); (case side1 => repeat (first | exact (Kd.R_reads' HO_6.out).2.2 | (with_reducible refine Kd.C_alloc ?_ _) | (with_reducible refine Kd.C_drewN ?_ _) | (with_reducible refine Kd.C_drew ?_))); (case side2 => exact (Kd.R_reads' HO_6.out).2.1); rintro e w50 ⟨rfl, hb⟩; refine ⟨_, rfl, ?_⟩; have n0_ := Aside0.mk (Kd.R_below (kr HO_5.out) hb); have n1_ := Aside0.mk (Kd.R_below (kr HO_6.out) hb); have n2_ := Aside0.mk (below_step bl hb); clear HO_5; clear HO_6; clear HB; have HO_5 := n0_; have HO_6 := n1_; have HB := n2_; clear n0_ n1_ n2_; (try clear hb); (try clear hb2); (try clear hk); (try clear hi)) | ((with_reducible refine gate_callee (f := 16) rfl ?_); refine goesL_ (some 77) rfl rfl Tryd.func16 (by kernel_rfl) rfl #[.string ((t288 ++ t289) ++ t288)] rfl ml ?_; (with_reducible refine (lines_Values.calls k1 ((t288 ++ t289) ++ t288) t290 t291 _ ?side1 A34.out).mono ?_); (case side1 => exact Glob.below HG.out bl); rintro e w51 ⟨v292, rfl, ho0, hb⟩; refine ⟨_, rfl, ?_⟩; have n0_ := Aside0.mk (Kd.R_elder' (kr HO_5.out) (Kd.R_base ho0) hb); have n1_ := Aside0.mk (Kd.R_elder' (kr HO_6.out) (Kd.R_base ho0) hb); have n2_ := Aside0.mk (Kd.R_lower (Kd.R_new' (Kd.R_new' ho0 (Kd.R_lt (kr HO_5.out))) (Kd.R_lt (kr HO_6.out))) (below_size bl)); have n3_ := Aside0.mk (below_step bl hb); clear HO_5; clear HO_6; clear HB; have HO_5 := n0_; have HO_6 := n1_; have HO293 := n2_; have HB := n3_; clear n0_ n1_ n2_ n3_; (try clear hb); (try clear hb2); (try clear hk); (try clear hi); (try clear ho0)))
          (try simp only [Act.put, List.setIfInBounds_toArray, List.set_cons_zero, List.set_cons_succ])
          go_cut [100] (fun v100 wc => ∃ (kq : Nat) (x100_45 : Bool), v100 = .bool x100_45 ∧ Aside0 (postriderlaw13_LinesValues.j1 kq ((t288 ++ t289) ++ t288) x100_45 = some r) ∧ Aside0 (kq ≤ k1) ∧ Aside0 (Below w.heap.size w wc))
          case first =>
           have H := HC46.out
           clear HC46
           by_cases c52 : t291 = 0
           ·rw [if_pos c52] at H
            have c52b0 : (t291 == 0) = true := beq_iff_eq.mpr c52
            have c52b1 : (t291 != 0) = false := bne_eq_false_iff_eq.mpr c52
            clear c52
            (first | rw [c52b0] | (simp only [i64_w, i32_w]; rw [c52b0]) | skip)
            replace H := Option.bind_eq_some_iff.mp H
            obtain ⟨t295, A530, H⟩ := H
            replace H : (postriderlaw13_LinesValues.j1 k1 ((t288 ++ t289) ++ t288) (!t295)) = some r := H
            have A53 := Aside0.mk A530
            clear A530
            have H' := Aside0.mk H
            clear H
            obtain ⟨Ao54, co54, eo54⟩ := Kd.R_slice HO293.out
            subst eo54
            go_wp2_with (first | (go_at_call 12; (with_reducible refine (slices_Equal_string_string.calls k1 _ _ t290 _ _ x5_1 t295 _ ?side1 ?side2 ?side3 ?side4 A53.out).mono ?_); (case side1 => repeat (first | exact (Kd.R_reads' HO293.out).2.2 | (with_reducible refine Kd.C_alloc ?_ _) | (with_reducible refine Kd.C_drewN ?_ _) | (with_reducible refine Kd.C_drew ?_))); (case side2 => exact (Kd.R_reads' HO293.out).2.1); (case side3 => repeat (first | exact (Kd.R_reads' HO_5.out).2.2 | (with_reducible refine Kd.C_alloc ?_ _) | (with_reducible refine Kd.C_drewN ?_ _) | (with_reducible refine Kd.C_drew ?_))); (case side4 => exact (Kd.R_reads' HO_5.out).2.1); rintro e w' ⟨rfl, ⟨nd, rfl⟩⟩))
            go_meet
            case rel => exact ⟨_, (!t295), (by first | rfl | (simp; done) | (simp [*]; done)), H', ⟨by have := HK1.out; first | omega | exact Nat.le_refl _⟩, ⟨by repeat (first | (with_reducible first | exact HB.out | apply below_alloc | apply pw_below_drewN | apply below_drew1) | exact HB.out)⟩⟩
           ·rw [if_neg c52] at H
            have c52b0 : (t291 == 0) = false := beq_eq_false_iff_ne.mpr c52
            have c52b1 : (t291 != 0) = true := bne_iff_ne.mpr c52
            (first | rw [c52b0] | (simp only [i64_w, i32_w]; rw [c52b0]) | skip)
            exact absurd (H.trans (congrArg some HT_r.out)) (by cases k1 <;> simp [postriderlaw13_LinesValues.j1])
          case rest =>
           clear HC46
           try clear c1
           try clear c2
           try clear p2
           try clear q2
           try clear hx2
           try clear c3
           try clear c3b0
           try clear c4
           try clear c4b0
           try clear c5
           try clear c5b0
           try clear c6
           try clear c6b0
           try clear p6
           try clear c7
           try clear c8
           try clear c8b0
           try clear c8b1
           try clear c9
           try clear c9b0
           try clear c9b1
           try clear c12
           try clear c14
           try clear c15
           try clear c16
           try clear c17
           try clear c18
           try clear c19
           try clear c19b0
           try clear c19b1
           try clear c19b2
           try clear c22
           try clear c22b0
           try clear c22b1
           try clear p27
           try clear q27
           try clear hx27
           try clear c29
           try clear c29b0
           try clear c29b1
           try clear c29b2
           try clear c30
           try clear c30b0
           try clear c30b1
           try clear c30b2
           try clear c32
           try clear c32b0
           try clear c32b1
           try clear c32b2
           try clear c33
           try clear c33b0
           try clear c33b1
           try clear c33b2
           try clear c35
           try clear c35b0
           try clear c35b1
           try clear c36
           try clear c36b0
           try clear c36b1
           try clear c37
           try clear c37b0
           try clear c37b1
           try clear c37b2
           try clear c52
           try clear c52b0
           try clear c52b1
           try clear hx273_0
           try clear p2
           try clear p273
           try clear q273
           obtain ⟨kq, x100_45, rfl, HA, HJ45, HB⟩ := hcut
           cases kq with
           | zero => exact absurd HA.out (by simp [postriderlaw13_LinesValues.j1])
           | succ kj45 =>
            have H := HA.out
            clear HA
            simp only [postriderlaw13_LinesValues.j1] at H
            by_cases c55 : x100_45 = true
            ·subst c55
             have H1 : (some false) = some r := by rw [if_pos rfl] at H; exact H
             clear H
             have H := H1
             clear H1
             exact absurd ((Option.some.inj H).trans HT_r.out) (by decide)
            ·replace c55 := Bool.eq_false_iff.mpr c55
             subst c55
             have H1 : (if ((t288 ++ t289) ++ t288).size + 1 ≤ 9223372036854775807 then (if 1 + ((t288 ++ t289) ++ t288).size ≤ 9223372036854775807 then (if ((t288 ++ t289) ++ t288).size + 4 ≤ 9223372036854775807 then (if ((t288 ++ t289) ++ t288).size + 5 ≤ 9223372036854775807 then (if ((t288 ++ t289) ++ t288).size + 7 ≤ 9223372036854775807 then (postriderlaw13_LinesValues.l1 kj45 0 (((t288 ++ t289) ++ t288) ++ (⟨#[44]⟩ : ByteArray)) ((⟨#[44]⟩ : ByteArray) ++ ((t288 ++ t289) ++ t288)) (((t288 ++ t289) ++ t288) ++ (⟨#[44, 32, 34, 120]⟩ : ByteArray)) (((t288 ++ t289) ++ t288) ++ (⟨#[44, 32, 120, 34, 121]⟩ : ByteArray)) (((t288 ++ t289) ++ t288) ++ (⟨#[44, 32, 34, 120, 34, 32, 121]⟩ : ByteArray)) (((t288 ++ t289) ++ t288) ++ (⟨#[1]⟩ : ByteArray))) else (none)) else (none)) else (none)) else (none)) else (none)) = some r := by rw [if_neg (show ¬ (false = true) by decide)] at H; exact H
             clear H
             have H := H1
             clear H1
             by_cases c56 : ((t288 ++ t289) ++ t288).size + 1 ≤ 9223372036854775807
             ·rw [if_pos c56] at H
              have c56b0 := eq_true c56
              have c56b1 : decide (((t288 ++ t289) ++ t288).size + 1 ≤ 9223372036854775807) = true := decide_eq_true c56
              try have c56b2 : (9223372036854775807 < ((t288 ++ t289) ++ t288).size + 1) = False := eq_false (Nat.not_lt.2 c56)
              try (have c56b2y := c56b2; rw [ByteArray.size_append] at c56b2y)
              try have c56b2z : (9223372036854775807 < t288.size + t289.size + t288.size + 1) = False := eq_false (fun h_ => by have g_ := c56; simp only [ByteArray.size_append] at g_; omega)
              by_cases c57 : 1 + ((t288 ++ t289) ++ t288).size ≤ 9223372036854775807
              ·rw [if_pos c57] at H
               have c57b0 := eq_true c57
               have c57b1 : decide (1 + ((t288 ++ t289) ++ t288).size ≤ 9223372036854775807) = true := decide_eq_true c57
               try have c57b2 : (9223372036854775807 < 1 + ((t288 ++ t289) ++ t288).size) = False := eq_false (Nat.not_lt.2 c57)
               try (have c57b2y := c57b2; rw [ByteArray.size_append] at c57b2y)
               try have c57b2z : (9223372036854775807 < 1 + (t288.size + t289.size + t288.size)) = False := eq_false (fun h_ => by have g_ := c57; simp only [ByteArray.size_append] at g_; omega)
               by_cases c58 : ((t288 ++ t289) ++ t288).size + 4 ≤ 9223372036854775807
               ·rw [if_pos c58] at H
                have c58b0 := eq_true c58
                have c58b1 : decide (((t288 ++ t289) ++ t288).size + 4 ≤ 9223372036854775807) = true := decide_eq_true c58
                try have c58b2 : (9223372036854775807 < ((t288 ++ t289) ++ t288).size + 4) = False := eq_false (Nat.not_lt.2 c58)
                try (have c58b2y := c58b2; rw [ByteArray.size_append] at c58b2y)
                try have c58b2z : (9223372036854775807 < t288.size + t289.size + t288.size + 4) = False := eq_false (fun h_ => by have g_ := c58; simp only [ByteArray.size_append] at g_; omega)
                by_cases c59 : ((t288 ++ t289) ++ t288).size + 5 ≤ 9223372036854775807
                ·rw [if_pos c59] at H
                 have c59b0 := eq_true c59
                 have c59b1 : decide (((t288 ++ t289) ++ t288).size + 5 ≤ 9223372036854775807) = true := decide_eq_true c59
                 try have c59b2 : (9223372036854775807 < ((t288 ++ t289) ++ t288).size + 5) = False := eq_false (Nat.not_lt.2 c59)
                 try (have c59b2y := c59b2; rw [ByteArray.size_append] at c59b2y)
                 try have c59b2z : (9223372036854775807 < t288.size + t289.size + t288.size + 5) = False := eq_false (fun h_ => by have g_ := c59; simp only [ByteArray.size_append] at g_; omega)
                 by_cases c60 : ((t288 ++ t289) ++ t288).size + 7 ≤ 9223372036854775807
                 ·rw [if_pos c60] at H
                  have c60b0 := eq_true c60
                  have c60b1 : decide (((t288 ++ t289) ++ t288).size + 7 ≤ 9223372036854775807) = true := decide_eq_true c60
                  try have c60b2 : (9223372036854775807 < ((t288 ++ t289) ++ t288).size + 7) = False := eq_false (Nat.not_lt.2 c60)
                  try (have c60b2y := c60b2; rw [ByteArray.size_append] at c60b2y)
                  try have c60b2z : (9223372036854775807 < t288.size + t289.size + t288.size + 7) = False := eq_false (fun h_ => by have g_ := c60; simp only [ByteArray.size_append] at g_; omega)
                  have H' := Aside0.mk H
                  clear H
                  go_wp2
                  go_loopg [114] kj45 (fun kq v114 w' => ∃ (x114_3 : Int), v114 = .int .i64 x114_3 ∧ Aside0 (postriderlaw13_LinesValues.l1 kq x114_3 (((t288 ++ t289) ++ t288) ++ (⟨#[44]⟩ : ByteArray)) ((⟨#[44]⟩ : ByteArray) ++ ((t288 ++ t289) ++ t288)) (((t288 ++ t289) ++ t288) ++ (⟨#[44, 32, 34, 120]⟩ : ByteArray)) (((t288 ++ t289) ++ t288) ++ (⟨#[44, 32, 120, 34, 121]⟩ : ByteArray)) (((t288 ++ t289) ++ t288) ++ (⟨#[44, 32, 34, 120, 34, 32, 121]⟩ : ByteArray)) (((t288 ++ t289) ++ t288) ++ (⟨#[1]⟩ : ByteArray)) = some r) ∧ Aside0 (kq ≤ kj45) ∧ Aside0 (Below w.heap.size w w'))
                  case atStart => exact ⟨(0), (by first | rfl | (simp; done) | (simp [*]; done)), H', ⟨Nat.le_refl _⟩, ⟨by repeat (first | (with_reducible first | exact HB.out | apply below_alloc | apply pw_below_drewN | apply below_drew1) | exact HB.out)⟩⟩
                  case round =>
                   clear H'
                   try clear c1
                   try clear c2
                   try clear p2
                   try clear q2
                   try clear hx2
                   try clear c3
                   try clear c3b0
                   try clear c4
                   try clear c4b0
                   try clear c5
                   try clear c5b0
                   try clear c6
                   try clear c6b0
                   try clear p6
                   try clear c7
                   try clear c8
                   try clear c8b0
                   try clear c8b1
                   try clear c9
                   try clear c9b0
                   try clear c9b1
                   try clear c12
                   try clear c14
                   try clear c15
                   try clear c16
                   try clear c17
                   try clear c18
                   try clear c19
                   try clear c19b0
                   try clear c19b1
                   try clear c19b2
                   try clear c22
                   try clear c22b0
                   try clear c22b1
                   try clear p27
                   try clear q27
                   try clear hx27
                   try clear c29
                   try clear c29b0
                   try clear c29b1
                   try clear c29b2
                   try clear c30
                   try clear c30b0
                   try clear c30b1
                   try clear c30b2
                   try clear c32
                   try clear c32b0
                   try clear c32b1
                   try clear c32b2
                   try clear c33
                   try clear c33b0
                   try clear c33b1
                   try clear c33b2
                   try clear c35
                   try clear c35b0
                   try clear c35b1
                   try clear c36
                   try clear c36b0
                   try clear c36b1
                   try clear c37
                   try clear c37b0
                   try clear c37b1
                   try clear c37b2
                   try clear c52
                   try clear c52b0
                   try clear c52b1
                   try clear c55
                   try clear c56
                   try clear c56b0
                   try clear c56b1
                   try clear c56b2
                   try clear c57
                   try clear c57b0
                   try clear c57b1
                   try clear c57b2
                   try clear c58
                   try clear c58b0
                   try clear c58b1
                   try clear c58b2
                   try clear c59
                   try clear c59b0
                   try clear c59b1
                   try clear c59b2
                   try clear c60
                   try clear c60b0
                   try clear c60b1
                   try clear c60b2
                   try clear hx273_0
                   try clear p2
                   try clear p27
                   try clear p273
                   try clear p6
                   try clear q2
                   try clear q27
                   try clear q273
                   obtain ⟨x114_3, rfl, HA, HK3, HB⟩ := hrel
                   cases gk with
                   | zero => exact absurd HA.out (by simp [postriderlaw13_LinesValues.l1])
                   | succ k3 =>
                    have H := HA.out
                    clear HA
                    simp only [postriderlaw13_LinesValues.l1] at H
                    by_cases c61 : x114_3 < 6
                    ·rw [if_pos c61] at H
                     have c61b0 : decide (x114_3 < 6) = true := decide_eq_true c61
                     clear c61
                     by_cases c62 : x114_3 = 0
                     ·subst c62
                      have H1 : ((lines_Values.f k3 (((t288 ++ t289) ++ t288) ++ (⟨#[44]⟩ : ByteArray))).bind fun bt296 => (if bt296.2 = 5 then (postriderlaw13_LinesValues.l1 k3 (0 + 1) (((t288 ++ t289) ++ t288) ++ (⟨#[44]⟩ : ByteArray)) ((⟨#[44]⟩ : ByteArray) ++ ((t288 ++ t289) ++ t288)) (((t288 ++ t289) ++ t288) ++ (⟨#[44, 32, 34, 120]⟩ : ByteArray)) (((t288 ++ t289) ++ t288) ++ (⟨#[44, 32, 120, 34, 121]⟩ : ByteArray)) (((t288 ++ t289) ++ t288) ++ (⟨#[44, 32, 34, 120, 34, 32, 121]⟩ : ByteArray)) (((t288 ++ t289) ++ t288) ++ (⟨#[1]⟩ : ByteArray))) else (some false))) = some r := by rw [if_pos rfl] at H; exact H
                      clear H
                      have H := H1
                      clear H1
                      replace H := Option.bind_eq_some_iff.mp H
                      obtain ⟨⟨t296, t297⟩, A640, H⟩ := H
                      replace H : (if t297 = 5 then (postriderlaw13_LinesValues.l1 k3 (0 + 1) (((t288 ++ t289) ++ t288) ++ (⟨#[44]⟩ : ByteArray)) ((⟨#[44]⟩ : ByteArray) ++ ((t288 ++ t289) ++ t288)) (((t288 ++ t289) ++ t288) ++ (⟨#[44, 32, 34, 120]⟩ : ByteArray)) (((t288 ++ t289) ++ t288) ++ (⟨#[44, 32, 120, 34, 121]⟩ : ByteArray)) (((t288 ++ t289) ++ t288) ++ (⟨#[44, 32, 34, 120, 34, 32, 121]⟩ : ByteArray)) (((t288 ++ t289) ++ t288) ++ (⟨#[1]⟩ : ByteArray))) else (some false)) = some r := H
                      have A64 := Aside0.mk A640
                      clear A640
                      by_cases c65 : t297 = 5
                      ·rw [if_pos c65] at H
                       have c65b0 : (t297 == 5) = true := beq_iff_eq.mpr c65
                       have c65b1 : (t297 != 5) = false := bne_eq_false_iff_eq.mpr c65
                       clear c65
                       have H' := Aside0.mk H
                       clear H
                       have hx63 : ∀ W_ : World, (Instr.index 37 (.agg #[.string (((t288 ++ t289) ++ t288) ++ (⟨#[44]⟩ : ByteArray)), .string ((⟨#[44]⟩ : ByteArray) ++ ((t288 ++ t289) ++ t288)), .string (((t288 ++ t289) ++ t288) ++ (⟨#[44, 32, 34, 120]⟩ : ByteArray)), .string (((t288 ++ t289) ++ t288) ++ (⟨#[44, 32, 120, 34, 121]⟩ : ByteArray)), .string (((t288 ++ t289) ++ t288) ++ (⟨#[44, 32, 34, 120, 34, 32, 121]⟩ : ByteArray)), .string (((t288 ++ t289) ++ t288) ++ (⟨#[1]⟩ : ByteArray))]) (.int .i64 0)).run Tryd.prog W_ = .ok (.string (((t288 ++ t289) ++ t288) ++ (⟨#[44]⟩ : ByteArray))) W_ := fun _ => by kernel_rfl
                       go_wp2_with (first | ((with_reducible refine gate_callee (f := 16) rfl ?_); refine goesL_ (some 119) rfl rfl Tryd.func16 (by kernel_rfl) rfl #[.string (((t288 ++ t289) ++ t288) ++ (⟨#[44]⟩ : ByteArray))] rfl ml ?_; (with_reducible refine (lines_Values.calls k3 (((t288 ++ t289) ++ t288) ++ (⟨#[44]⟩ : ByteArray)) t296 t297 _ ?side1 A64.out).mono ?_); (case side1 => exact Glob.below HG.out bl); rintro e w66 ⟨v298, rfl, ho0, hb⟩; refine ⟨_, rfl, ?_⟩; have n0_ := Aside0.mk (Kd.R_lower ho0 (below_size bl)); have n1_ := Aside0.mk (below_step bl hb); clear HB; have HO299 := n0_; have HB := n1_; clear n0_ n1_; (try clear hb); (try clear hb2); (try clear hk); (try clear hi); (try clear ho0)))
                       go_roundg k3
                       case measure => have := HK1.out; have := HJ45.out; have := HK3.out; omega
                       case rel => exact ⟨(0 + 1), (by first | rfl | (simp; done) | (simp [*]; done)), H', ⟨by have := HK1.out; have := HJ45.out; have := HK3.out; omega⟩, ⟨by repeat (first | (with_reducible first | exact HB.out | apply below_alloc | apply pw_below_drewN | apply below_drew1) | exact HB.out)⟩⟩
                      ·rw [if_neg c65] at H
                       have c65b0 : (t297 == 5) = false := beq_eq_false_iff_ne.mpr c65
                       have c65b1 : (t297 != 5) = true := bne_iff_ne.mpr c65
                       exact absurd ((Option.some.inj H).trans HT_r.out) (by decide)
                     ·rw [if_neg c62] at H
                      by_cases c67 : x114_3 = 1
                      ·subst c67
                       have H1 : ((lines_Values.f k3 ((⟨#[44]⟩ : ByteArray) ++ ((t288 ++ t289) ++ t288))).bind fun bt300 => (if bt300.2 = 5 then (postriderlaw13_LinesValues.l1 k3 (1 + 1) (((t288 ++ t289) ++ t288) ++ (⟨#[44]⟩ : ByteArray)) ((⟨#[44]⟩ : ByteArray) ++ ((t288 ++ t289) ++ t288)) (((t288 ++ t289) ++ t288) ++ (⟨#[44, 32, 34, 120]⟩ : ByteArray)) (((t288 ++ t289) ++ t288) ++ (⟨#[44, 32, 120, 34, 121]⟩ : ByteArray)) (((t288 ++ t289) ++ t288) ++ (⟨#[44, 32, 34, 120, 34, 32, 121]⟩ : ByteArray)) (((t288 ++ t289) ++ t288) ++ (⟨#[1]⟩ : ByteArray))) else (some false))) = some r := by rw [if_pos rfl] at H; exact H
                       clear H
                       have H := H1
                       clear H1
                       replace H := Option.bind_eq_some_iff.mp H
                       obtain ⟨⟨t300, t301⟩, A690, H⟩ := H
                       replace H : (if t301 = 5 then (postriderlaw13_LinesValues.l1 k3 (1 + 1) (((t288 ++ t289) ++ t288) ++ (⟨#[44]⟩ : ByteArray)) ((⟨#[44]⟩ : ByteArray) ++ ((t288 ++ t289) ++ t288)) (((t288 ++ t289) ++ t288) ++ (⟨#[44, 32, 34, 120]⟩ : ByteArray)) (((t288 ++ t289) ++ t288) ++ (⟨#[44, 32, 120, 34, 121]⟩ : ByteArray)) (((t288 ++ t289) ++ t288) ++ (⟨#[44, 32, 34, 120, 34, 32, 121]⟩ : ByteArray)) (((t288 ++ t289) ++ t288) ++ (⟨#[1]⟩ : ByteArray))) else (some false)) = some r := H
                       have A69 := Aside0.mk A690
                       clear A690
                       by_cases c70 : t301 = 5
                       ·rw [if_pos c70] at H
                        have c70b0 : (t301 == 5) = true := beq_iff_eq.mpr c70
                        have c70b1 : (t301 != 5) = false := bne_eq_false_iff_eq.mpr c70
                        clear c70
                        have H' := Aside0.mk H
                        clear H
                        have hx68 : ∀ W_ : World, (Instr.index 37 (.agg #[.string (((t288 ++ t289) ++ t288) ++ (⟨#[44]⟩ : ByteArray)), .string ((⟨#[44]⟩ : ByteArray) ++ ((t288 ++ t289) ++ t288)), .string (((t288 ++ t289) ++ t288) ++ (⟨#[44, 32, 34, 120]⟩ : ByteArray)), .string (((t288 ++ t289) ++ t288) ++ (⟨#[44, 32, 120, 34, 121]⟩ : ByteArray)), .string (((t288 ++ t289) ++ t288) ++ (⟨#[44, 32, 34, 120, 34, 32, 121]⟩ : ByteArray)), .string (((t288 ++ t289) ++ t288) ++ (⟨#[1]⟩ : ByteArray))]) (.int .i64 1)).run Tryd.prog W_ = .ok (.string ((⟨#[44]⟩ : ByteArray) ++ ((t288 ++ t289) ++ t288))) W_ := fun _ => by kernel_rfl
                        go_wp2_with (first | ((with_reducible refine gate_callee (f := 16) rfl ?_); refine goesL_ (some 119) rfl rfl Tryd.func16 (by kernel_rfl) rfl #[.string ((⟨#[44]⟩ : ByteArray) ++ ((t288 ++ t289) ++ t288))] rfl ml ?_; (with_reducible refine (lines_Values.calls k3 ((⟨#[44]⟩ : ByteArray) ++ ((t288 ++ t289) ++ t288)) t300 t301 _ ?side1 A69.out).mono ?_); (case side1 => exact Glob.below HG.out bl); rintro e w71 ⟨v302, rfl, ho0, hb⟩; refine ⟨_, rfl, ?_⟩; have n0_ := Aside0.mk (Kd.R_lower ho0 (below_size bl)); have n1_ := Aside0.mk (below_step bl hb); clear HB; have HO303 := n0_; have HB := n1_; clear n0_ n1_; (try clear hb); (try clear hb2); (try clear hk); (try clear hi); (try clear ho0)))
                        go_roundg k3
                        case measure => have := HK1.out; have := HJ45.out; have := HK3.out; omega
                        case rel => exact ⟨(1 + 1), (by first | rfl | (simp; done) | (simp [*]; done)), H', ⟨by have := HK1.out; have := HJ45.out; have := HK3.out; omega⟩, ⟨by repeat (first | (with_reducible first | exact HB.out | apply below_alloc | apply pw_below_drewN | apply below_drew1) | exact HB.out)⟩⟩
                       ·rw [if_neg c70] at H
                        have c70b0 : (t301 == 5) = false := beq_eq_false_iff_ne.mpr c70
                        have c70b1 : (t301 != 5) = true := bne_iff_ne.mpr c70
                        exact absurd ((Option.some.inj H).trans HT_r.out) (by decide)
                      ·rw [if_neg c67] at H
                       by_cases c72 : x114_3 = 2
                       ·subst c72
                        have H1 : ((lines_Values.f k3 (((t288 ++ t289) ++ t288) ++ (⟨#[44, 32, 34, 120]⟩ : ByteArray))).bind fun bt304 => (if bt304.2 = 5 then (postriderlaw13_LinesValues.l1 k3 (2 + 1) (((t288 ++ t289) ++ t288) ++ (⟨#[44]⟩ : ByteArray)) ((⟨#[44]⟩ : ByteArray) ++ ((t288 ++ t289) ++ t288)) (((t288 ++ t289) ++ t288) ++ (⟨#[44, 32, 34, 120]⟩ : ByteArray)) (((t288 ++ t289) ++ t288) ++ (⟨#[44, 32, 120, 34, 121]⟩ : ByteArray)) (((t288 ++ t289) ++ t288) ++ (⟨#[44, 32, 34, 120, 34, 32, 121]⟩ : ByteArray)) (((t288 ++ t289) ++ t288) ++ (⟨#[1]⟩ : ByteArray))) else (some false))) = some r := by rw [if_pos rfl] at H; exact H
                        clear H
                        have H := H1
                        clear H1
                        replace H := Option.bind_eq_some_iff.mp H
                        obtain ⟨⟨t304, t305⟩, A740, H⟩ := H
                        replace H : (if t305 = 5 then (postriderlaw13_LinesValues.l1 k3 (2 + 1) (((t288 ++ t289) ++ t288) ++ (⟨#[44]⟩ : ByteArray)) ((⟨#[44]⟩ : ByteArray) ++ ((t288 ++ t289) ++ t288)) (((t288 ++ t289) ++ t288) ++ (⟨#[44, 32, 34, 120]⟩ : ByteArray)) (((t288 ++ t289) ++ t288) ++ (⟨#[44, 32, 120, 34, 121]⟩ : ByteArray)) (((t288 ++ t289) ++ t288) ++ (⟨#[44, 32, 34, 120, 34, 32, 121]⟩ : ByteArray)) (((t288 ++ t289) ++ t288) ++ (⟨#[1]⟩ : ByteArray))) else (some false)) = some r := H
                        have A74 := Aside0.mk A740
                        clear A740
                        by_cases c75 : t305 = 5
                        ·rw [if_pos c75] at H
                         have c75b0 : (t305 == 5) = true := beq_iff_eq.mpr c75
                         have c75b1 : (t305 != 5) = false := bne_eq_false_iff_eq.mpr c75
                         clear c75
                         have H' := Aside0.mk H
                         clear H
                         have hx73 : ∀ W_ : World, (Instr.index 37 (.agg #[.string (((t288 ++ t289) ++ t288) ++ (⟨#[44]⟩ : ByteArray)), .string ((⟨#[44]⟩ : ByteArray) ++ ((t288 ++ t289) ++ t288)), .string (((t288 ++ t289) ++ t288) ++ (⟨#[44, 32, 34, 120]⟩ : ByteArray)), .string (((t288 ++ t289) ++ t288) ++ (⟨#[44, 32, 120, 34, 121]⟩ : ByteArray)), .string (((t288 ++ t289) ++ t288) ++ (⟨#[44, 32, 34, 120, 34, 32, 121]⟩ : ByteArray)), .string (((t288 ++ t289) ++ t288) ++ (⟨#[1]⟩ : ByteArray))]) (.int .i64 2)).run Tryd.prog W_ = .ok (.string (((t288 ++ t289) ++ t288) ++ (⟨#[44, 32, 34, 120]⟩ : ByteArray))) W_ := fun _ => by kernel_rfl
                         go_wp2_with (first | ((with_reducible refine gate_callee (f := 16) rfl ?_); refine goesL_ (some 119) rfl rfl Tryd.func16 (by kernel_rfl) rfl #[.string (((t288 ++ t289) ++ t288) ++ (⟨#[44, 32, 34, 120]⟩ : ByteArray))] rfl ml ?_; (with_reducible refine (lines_Values.calls k3 (((t288 ++ t289) ++ t288) ++ (⟨#[44, 32, 34, 120]⟩ : ByteArray)) t304 t305 _ ?side1 A74.out).mono ?_); (case side1 => exact Glob.below HG.out bl); rintro e w76 ⟨v306, rfl, ho0, hb⟩; refine ⟨_, rfl, ?_⟩; have n0_ := Aside0.mk (Kd.R_lower ho0 (below_size bl)); have n1_ := Aside0.mk (below_step bl hb); clear HB; have HO307 := n0_; have HB := n1_; clear n0_ n1_; (try clear hb); (try clear hb2); (try clear hk); (try clear hi); (try clear ho0)))
                         go_roundg k3
                         case measure => have := HK1.out; have := HJ45.out; have := HK3.out; omega
                         case rel => exact ⟨(2 + 1), (by first | rfl | (simp; done) | (simp [*]; done)), H', ⟨by have := HK1.out; have := HJ45.out; have := HK3.out; omega⟩, ⟨by repeat (first | (with_reducible first | exact HB.out | apply below_alloc | apply pw_below_drewN | apply below_drew1) | exact HB.out)⟩⟩
                        ·rw [if_neg c75] at H
                         have c75b0 : (t305 == 5) = false := beq_eq_false_iff_ne.mpr c75
                         have c75b1 : (t305 != 5) = true := bne_iff_ne.mpr c75
                         exact absurd ((Option.some.inj H).trans HT_r.out) (by decide)
                       ·rw [if_neg c72] at H
                        by_cases c77 : x114_3 = 3
                        ·subst c77
                         have H1 : ((lines_Values.f k3 (((t288 ++ t289) ++ t288) ++ (⟨#[44, 32, 120, 34, 121]⟩ : ByteArray))).bind fun bt308 => (if bt308.2 = 5 then (postriderlaw13_LinesValues.l1 k3 (3 + 1) (((t288 ++ t289) ++ t288) ++ (⟨#[44]⟩ : ByteArray)) ((⟨#[44]⟩ : ByteArray) ++ ((t288 ++ t289) ++ t288)) (((t288 ++ t289) ++ t288) ++ (⟨#[44, 32, 34, 120]⟩ : ByteArray)) (((t288 ++ t289) ++ t288) ++ (⟨#[44, 32, 120, 34, 121]⟩ : ByteArray)) (((t288 ++ t289) ++ t288) ++ (⟨#[44, 32, 34, 120, 34, 32, 121]⟩ : ByteArray)) (((t288 ++ t289) ++ t288) ++ (⟨#[1]⟩ : ByteArray))) else (some false))) = some r := by rw [if_pos rfl] at H; exact H
                         clear H
                         have H := H1
                         clear H1
                         replace H := Option.bind_eq_some_iff.mp H
                         obtain ⟨⟨t308, t309⟩, A790, H⟩ := H
                         replace H : (if t309 = 5 then (postriderlaw13_LinesValues.l1 k3 (3 + 1) (((t288 ++ t289) ++ t288) ++ (⟨#[44]⟩ : ByteArray)) ((⟨#[44]⟩ : ByteArray) ++ ((t288 ++ t289) ++ t288)) (((t288 ++ t289) ++ t288) ++ (⟨#[44, 32, 34, 120]⟩ : ByteArray)) (((t288 ++ t289) ++ t288) ++ (⟨#[44, 32, 120, 34, 121]⟩ : ByteArray)) (((t288 ++ t289) ++ t288) ++ (⟨#[44, 32, 34, 120, 34, 32, 121]⟩ : ByteArray)) (((t288 ++ t289) ++ t288) ++ (⟨#[1]⟩ : ByteArray))) else (some false)) = some r := H
                         have A79 := Aside0.mk A790
                         clear A790
                         by_cases c80 : t309 = 5
                         ·rw [if_pos c80] at H
                          have c80b0 : (t309 == 5) = true := beq_iff_eq.mpr c80
                          have c80b1 : (t309 != 5) = false := bne_eq_false_iff_eq.mpr c80
                          clear c80
                          have H' := Aside0.mk H
                          clear H
                          have hx78 : ∀ W_ : World, (Instr.index 37 (.agg #[.string (((t288 ++ t289) ++ t288) ++ (⟨#[44]⟩ : ByteArray)), .string ((⟨#[44]⟩ : ByteArray) ++ ((t288 ++ t289) ++ t288)), .string (((t288 ++ t289) ++ t288) ++ (⟨#[44, 32, 34, 120]⟩ : ByteArray)), .string (((t288 ++ t289) ++ t288) ++ (⟨#[44, 32, 120, 34, 121]⟩ : ByteArray)), .string (((t288 ++ t289) ++ t288) ++ (⟨#[44, 32, 34, 120, 34, 32, 121]⟩ : ByteArray)), .string (((t288 ++ t289) ++ t288) ++ (⟨#[1]⟩ : ByteArray))]) (.int .i64 3)).run Tryd.prog W_ = .ok (.string (((t288 ++ t289) ++ t288) ++ (⟨#[44, 32, 120, 34, 121]⟩ : ByteArray))) W_ := fun _ => by kernel_rfl
                          go_wp2_with (first | ((with_reducible refine gate_callee (f := 16) rfl ?_); refine goesL_ (some 119) rfl rfl Tryd.func16 (by kernel_rfl) rfl #[.string (((t288 ++ t289) ++ t288) ++ (⟨#[44, 32, 120, 34, 121]⟩ : ByteArray))] rfl ml ?_; (with_reducible refine (lines_Values.calls k3 (((t288 ++ t289) ++ t288) ++ (⟨#[44, 32, 120, 34, 121]⟩ : ByteArray)) t308 t309 _ ?side1 A79.out).mono ?_); (case side1 => exact Glob.below HG.out bl); rintro e w81 ⟨v310, rfl, ho0, hb⟩; refine ⟨_, rfl, ?_⟩; have n0_ := Aside0.mk (Kd.R_lower ho0 (below_size bl)); have n1_ := Aside0.mk (below_step bl hb); clear HB; have HO311 := n0_; have HB := n1_; clear n0_ n1_; (try clear hb); (try clear hb2); (try clear hk); (try clear hi); (try clear ho0)))
                          go_roundg k3
                          case measure => have := HK1.out; have := HJ45.out; have := HK3.out; omega
                          case rel => exact ⟨(3 + 1), (by first | rfl | (simp; done) | (simp [*]; done)), H', ⟨by have := HK1.out; have := HJ45.out; have := HK3.out; omega⟩, ⟨by repeat (first | (with_reducible first | exact HB.out | apply below_alloc | apply pw_below_drewN | apply below_drew1) | exact HB.out)⟩⟩
                         ·rw [if_neg c80] at H
                          have c80b0 : (t309 == 5) = false := beq_eq_false_iff_ne.mpr c80
                          have c80b1 : (t309 != 5) = true := bne_iff_ne.mpr c80
                          exact absurd ((Option.some.inj H).trans HT_r.out) (by decide)
                        ·rw [if_neg c77] at H
                         by_cases c82 : x114_3 = 4
                         ·subst c82
                          have H1 : ((lines_Values.f k3 (((t288 ++ t289) ++ t288) ++ (⟨#[44, 32, 34, 120, 34, 32, 121]⟩ : ByteArray))).bind fun bt312 => (if bt312.2 = 5 then (postriderlaw13_LinesValues.l1 k3 (4 + 1) (((t288 ++ t289) ++ t288) ++ (⟨#[44]⟩ : ByteArray)) ((⟨#[44]⟩ : ByteArray) ++ ((t288 ++ t289) ++ t288)) (((t288 ++ t289) ++ t288) ++ (⟨#[44, 32, 34, 120]⟩ : ByteArray)) (((t288 ++ t289) ++ t288) ++ (⟨#[44, 32, 120, 34, 121]⟩ : ByteArray)) (((t288 ++ t289) ++ t288) ++ (⟨#[44, 32, 34, 120, 34, 32, 121]⟩ : ByteArray)) (((t288 ++ t289) ++ t288) ++ (⟨#[1]⟩ : ByteArray))) else (some false))) = some r := by rw [if_pos rfl] at H; exact H
                          clear H
                          have H := H1
                          clear H1
                          replace H := Option.bind_eq_some_iff.mp H
                          obtain ⟨⟨t312, t313⟩, A840, H⟩ := H
                          replace H : (if t313 = 5 then (postriderlaw13_LinesValues.l1 k3 (4 + 1) (((t288 ++ t289) ++ t288) ++ (⟨#[44]⟩ : ByteArray)) ((⟨#[44]⟩ : ByteArray) ++ ((t288 ++ t289) ++ t288)) (((t288 ++ t289) ++ t288) ++ (⟨#[44, 32, 34, 120]⟩ : ByteArray)) (((t288 ++ t289) ++ t288) ++ (⟨#[44, 32, 120, 34, 121]⟩ : ByteArray)) (((t288 ++ t289) ++ t288) ++ (⟨#[44, 32, 34, 120, 34, 32, 121]⟩ : ByteArray)) (((t288 ++ t289) ++ t288) ++ (⟨#[1]⟩ : ByteArray))) else (some false)) = some r := H
                          have A84 := Aside0.mk A840
                          clear A840
                          by_cases c85 : t313 = 5
                          ·rw [if_pos c85] at H
                           have c85b0 : (t313 == 5) = true := beq_iff_eq.mpr c85
                           have c85b1 : (t313 != 5) = false := bne_eq_false_iff_eq.mpr c85
                           clear c85
                           have H' := Aside0.mk H
                           clear H
                           have hx83 : ∀ W_ : World, (Instr.index 37 (.agg #[.string (((t288 ++ t289) ++ t288) ++ (⟨#[44]⟩ : ByteArray)), .string ((⟨#[44]⟩ : ByteArray) ++ ((t288 ++ t289) ++ t288)), .string (((t288 ++ t289) ++ t288) ++ (⟨#[44, 32, 34, 120]⟩ : ByteArray)), .string (((t288 ++ t289) ++ t288) ++ (⟨#[44, 32, 120, 34, 121]⟩ : ByteArray)), .string (((t288 ++ t289) ++ t288) ++ (⟨#[44, 32, 34, 120, 34, 32, 121]⟩ : ByteArray)), .string (((t288 ++ t289) ++ t288) ++ (⟨#[1]⟩ : ByteArray))]) (.int .i64 4)).run Tryd.prog W_ = .ok (.string (((t288 ++ t289) ++ t288) ++ (⟨#[44, 32, 34, 120, 34, 32, 121]⟩ : ByteArray))) W_ := fun _ => by kernel_rfl
                           go_wp2_with (first | ((with_reducible refine gate_callee (f := 16) rfl ?_); refine goesL_ (some 119) rfl rfl Tryd.func16 (by kernel_rfl) rfl #[.string (((t288 ++ t289) ++ t288) ++ (⟨#[44, 32, 34, 120, 34, 32, 121]⟩ : ByteArray))] rfl ml ?_; (with_reducible refine (lines_Values.calls k3 (((t288 ++ t289) ++ t288) ++ (⟨#[44, 32, 34, 120, 34, 32, 121]⟩ : ByteArray)) t312 t313 _ ?side1 A84.out).mono ?_); (case side1 => exact Glob.below HG.out bl); rintro e w86 ⟨v314, rfl, ho0, hb⟩; refine ⟨_, rfl, ?_⟩; have n0_ := Aside0.mk (Kd.R_lower ho0 (below_size bl)); have n1_ := Aside0.mk (below_step bl hb); clear HB; have HO315 := n0_; have HB := n1_; clear n0_ n1_; (try clear hb); (try clear hb2); (try clear hk); (try clear hi); (try clear ho0)))
                           go_roundg k3
                           case measure => have := HK1.out; have := HJ45.out; have := HK3.out; omega
                           case rel => exact ⟨(4 + 1), (by first | rfl | (simp; done) | (simp [*]; done)), H', ⟨by have := HK1.out; have := HJ45.out; have := HK3.out; omega⟩, ⟨by repeat (first | (with_reducible first | exact HB.out | apply below_alloc | apply pw_below_drewN | apply below_drew1) | exact HB.out)⟩⟩
                          ·rw [if_neg c85] at H
                           have c85b0 : (t313 == 5) = false := beq_eq_false_iff_ne.mpr c85
                           have c85b1 : (t313 != 5) = true := bne_iff_ne.mpr c85
                           exact absurd ((Option.some.inj H).trans HT_r.out) (by decide)
                         ·rw [if_neg c82] at H
                          by_cases c87 : x114_3 = 5
                          ·subst c87
                           have H1 : ((lines_Values.f k3 (((t288 ++ t289) ++ t288) ++ (⟨#[1]⟩ : ByteArray))).bind fun bt316 => (if bt316.2 = 5 then (postriderlaw13_LinesValues.l1 k3 (5 + 1) (((t288 ++ t289) ++ t288) ++ (⟨#[44]⟩ : ByteArray)) ((⟨#[44]⟩ : ByteArray) ++ ((t288 ++ t289) ++ t288)) (((t288 ++ t289) ++ t288) ++ (⟨#[44, 32, 34, 120]⟩ : ByteArray)) (((t288 ++ t289) ++ t288) ++ (⟨#[44, 32, 120, 34, 121]⟩ : ByteArray)) (((t288 ++ t289) ++ t288) ++ (⟨#[44, 32, 34, 120, 34, 32, 121]⟩ : ByteArray)) (((t288 ++ t289) ++ t288) ++ (⟨#[1]⟩ : ByteArray))) else (some false))) = some r := by rw [if_pos rfl] at H; exact H
                           clear H
                           have H := H1
                           clear H1
                           replace H := Option.bind_eq_some_iff.mp H
                           obtain ⟨⟨t316, t317⟩, A890, H⟩ := H
                           replace H : (if t317 = 5 then (postriderlaw13_LinesValues.l1 k3 (5 + 1) (((t288 ++ t289) ++ t288) ++ (⟨#[44]⟩ : ByteArray)) ((⟨#[44]⟩ : ByteArray) ++ ((t288 ++ t289) ++ t288)) (((t288 ++ t289) ++ t288) ++ (⟨#[44, 32, 34, 120]⟩ : ByteArray)) (((t288 ++ t289) ++ t288) ++ (⟨#[44, 32, 120, 34, 121]⟩ : ByteArray)) (((t288 ++ t289) ++ t288) ++ (⟨#[44, 32, 34, 120, 34, 32, 121]⟩ : ByteArray)) (((t288 ++ t289) ++ t288) ++ (⟨#[1]⟩ : ByteArray))) else (some false)) = some r := H
                           have A89 := Aside0.mk A890
                           clear A890
                           by_cases c90 : t317 = 5
                           ·rw [if_pos c90] at H
                            have c90b0 : (t317 == 5) = true := beq_iff_eq.mpr c90
                            have c90b1 : (t317 != 5) = false := bne_eq_false_iff_eq.mpr c90
                            clear c90
                            have H' := Aside0.mk H
                            clear H
                            have hx88 : ∀ W_ : World, (Instr.index 37 (.agg #[.string (((t288 ++ t289) ++ t288) ++ (⟨#[44]⟩ : ByteArray)), .string ((⟨#[44]⟩ : ByteArray) ++ ((t288 ++ t289) ++ t288)), .string (((t288 ++ t289) ++ t288) ++ (⟨#[44, 32, 34, 120]⟩ : ByteArray)), .string (((t288 ++ t289) ++ t288) ++ (⟨#[44, 32, 120, 34, 121]⟩ : ByteArray)), .string (((t288 ++ t289) ++ t288) ++ (⟨#[44, 32, 34, 120, 34, 32, 121]⟩ : ByteArray)), .string (((t288 ++ t289) ++ t288) ++ (⟨#[1]⟩ : ByteArray))]) (.int .i64 5)).run Tryd.prog W_ = .ok (.string (((t288 ++ t289) ++ t288) ++ (⟨#[1]⟩ : ByteArray))) W_ := fun _ => by kernel_rfl
                            go_wp2_with (first | ((with_reducible refine gate_callee (f := 16) rfl ?_); refine goesL_ (some 119) rfl rfl Tryd.func16 (by kernel_rfl) rfl #[.string (((t288 ++ t289) ++ t288) ++ (⟨#[1]⟩ : ByteArray))] rfl ml ?_; (with_reducible refine (lines_Values.calls k3 (((t288 ++ t289) ++ t288) ++ (⟨#[1]⟩ : ByteArray)) t316 t317 _ ?side1 A89.out).mono ?_); (case side1 => exact Glob.below HG.out bl); rintro e w91 ⟨v318, rfl, ho0, hb⟩; refine ⟨_, rfl, ?_⟩; have n0_ := Aside0.mk (Kd.R_lower ho0 (below_size bl)); have n1_ := Aside0.mk (below_step bl hb); clear HB; have HO319 := n0_; have HB := n1_; clear n0_ n1_; (try clear hb); (try clear hb2); (try clear hk); (try clear hi); (try clear ho0)))
                            go_roundg k3
                            case measure => have := HK1.out; have := HJ45.out; have := HK3.out; omega
                            case rel => exact ⟨(5 + 1), (by first | rfl | (simp; done) | (simp [*]; done)), H', ⟨by have := HK1.out; have := HJ45.out; have := HK3.out; omega⟩, ⟨by repeat (first | (with_reducible first | exact HB.out | apply below_alloc | apply pw_below_drewN | apply below_drew1) | exact HB.out)⟩⟩
                           ·rw [if_neg c90] at H
                            have c90b0 : (t317 == 5) = false := beq_eq_false_iff_ne.mpr c90
                            have c90b1 : (t317 != 5) = true := bne_iff_ne.mpr c90
                            exact absurd ((Option.some.inj H).trans HT_r.out) (by decide)
                          ·rw [if_neg c87] at H
                           exact absurd H (by simp)
                    ·rw [if_neg c61] at H
                     have c61b0 : decide (x114_3 < 6) = false := decide_eq_false c61
                     clear c61
                     replace H := Option.bind_eq_some_iff.mp H
                     obtain ⟨t320, A920, H⟩ := H
                     replace H : (some t320) = some r := H
                     have A92 := Aside0.mk A920
                     clear A920
                     obtain rfl := Option.some.inj H
                     go_wp2_with (first | ((with_reducible refine gate_callee (f := 14) rfl ?_); refine goesL_ (some 125) rfl rfl Tryd.func14 (by kernel_rfl) rfl #[] rfl ml ?_; (with_reducible refine (postriderlaw13_wakes.calls k3  t320 _ ?side1 ?side2 A92.out).mono ?_); (case side1 => exact Glob.below HG.out bl); (case side2 => first | rfl | exact HT_r.out); rintro e w93 ⟨rfl, hb⟩; refine ⟨_, rfl, ?_⟩; have n0_ := Aside0.mk (below_step bl hb); clear HB; have HB := n0_; clear n0_; (try clear hb); (try clear hb2); (try clear hk); (try clear hi)))
                     go_ret
                     exact ⟨by first | rfl | (simp [bneNil]; done) | (simp [errW_none, errW_some] <;> rfl) | (simp [*, errW_none, errW_some] <;> rfl), by repeat (first | (with_reducible first | exact HB.out | apply below_alloc | apply pw_below_drewN | apply below_drew1) | exact HB.out)⟩
                 ·rw [if_neg c60] at H
                  exact absurd H (by simp)
                ·rw [if_neg c59] at H
                 exact absurd H (by simp)
               ·rw [if_neg c58] at H
                exact absurd H (by simp)
              ·rw [if_neg c57] at H
               exact absurd H (by simp)
             ·rw [if_neg c56] at H
              exact absurd H (by simp)
        ·rw [if_neg c33] at H
         exact absurd H (by simp)
       ·rw [if_neg c32] at H
        exact absurd H (by simp)
      ·rw [if_neg c30] at H
       exact absurd H (by simp)
     ·rw [if_neg c29] at H
      exact absurd H (by simp)

/-- THE ONE PURE STATEMENT of postriderlaw13_LinesValues: yours. -/
def postriderlaw13_LinesValues.Pure : Prop := ∀ (l0 : List ByteArray) (a1 : Int), l0.length ≤ maxLen → (∀ x ∈ l0, x.size ≤ maxLen) → (Lit.int .u8 a1).wf = true → ∃ k, postriderlaw13_LinesValues.f k l0 a1 = some true
theorem postriderlaw13_LinesValues.walk (P : postriderlaw13_LinesValues.Pure) (a0 : Option Addr) (len0 cap0 : Nat) (z0 : List ByteArray) (a1 : Int) (w : World) (w0 : IsRowS w a0 len0 cap0 z0) (w1 : (Lit.int .u8 a1).wf = true) (hG : Glob w) :
  Calls Tryd.prog 4 #[.slice a0 len0 cap0, .int .u8 a1] w fun e w' => e = .returned (.bool true) ∧ Below w.heap.size w w' := by
 obtain ⟨l0, rfl, hr0, hm0, hw0, hc0⟩ := strs_row w0
 obtain ⟨k, h⟩ := P l0 a1 hm0 hw0 w1
 refine (postriderlaw13_LinesValues.calls k _ _ l0 a1 true w (Kd.C_of_reads (d := ByteArray.empty) (h1 := fun _ => rfl) hr0) hc0 hG rfl h).mono ?_
 rintro e w' ⟨rfl, hd⟩
 exact ⟨rfl, hd⟩

end Go.Proofs.YtgabcckljhnocaaDoor.Q
end
