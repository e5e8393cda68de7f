/- Walks of functions. -/
import Derived.Test.YtgelfnjicglmbaaGreatDoorQx0
import Derived.Test.YtgelfnjicglmbaaGreatDoorQx7
import Derived.Test.YtgelfnjicglmbaaGreatDoorQx10
namespace Go.Proofs.YtgelfnjicglmbaaGreatDoor.Q
set_option linter.unusedSimpArgs false
set_option linter.unusedVariables false
open Go.RowKit Go.Proofs.YtgelfnjicglmbaaGreatDoorW.PrintWords Go.Proofs.YtgelfnjicglmbaaGreatDoorW.PrintLast Go.Proofs.YtgelfnjicglmbaaGreatDoorW.PrintMore
attribute [local go_sem] max2_int min2_int max_two min_two max_three min_three max_four min_four

attribute [local go_sem high] eqA24 eqA29
/-! ### postriderlaw06_tells: function 11 -/
def postriderlaw06_tells.f (k : Nat)  : Option (Bool) := (path_From.f k (⟨#[60, 97, 64, 98, 46, 99, 62, 32, 83, 73, 90, 69, 61, 53]⟩ : ByteArray)).bind fun bt291 => ((path_From.f k (⟨#[60, 64, 120, 44, 64, 121, 58, 97, 64, 98, 46, 99, 62]⟩ : ByteArray)).bind fun bt304 => ((path_From.f k (⟨#[60, 62]⟩ : ByteArray)).bind fun bt317 => ((path_To.f k (⟨#[60, 112, 111, 115, 116, 77, 97, 115, 116, 101, 114, 62]⟩ : ByteArray)).bind fun bt330 => ((path_To.f k (⟨#[60, 62]⟩ : ByteArray)).bind fun bt339 => (if bt291.2.2.2.2.2.2.2.2 = 0 then (if (bt291.2.2.2.1.toList == ([97] : List UInt8) && (bt291.2.2.2.2.1.toList == ([98, 46, 99] : List UInt8))) = true then (if bt291.2.2.2.2.2.2.2.1 = 5 then (if bt291.2.2.2.2.2.1 = true then (if bt304.2.2.2.2.2.2.2.2 = 0 then (if (bt304.2.2.1.length : Int) = 2 then (if 1 < (bt304.2.2.1.length : Int) then (if (rdOf ByteArray.empty bt304.2.2.1 1).toList = ([121] : List UInt8) then (if bt317.2.2.2.2.2.2.2.2 = 0 then (if bt317.1 = true then (if bt330.2.2.2.2.2 = 0 then (if bt330.2.1 = true then (some (bt339.2.2.2.2.2 == 5)) else (some false)) else (some false)) else (some false)) else (some false)) else (some false)) else (none)) else (some false)) else (some false)) else (some false)) else (some false)) else (some false)) else (some false))))))
theorem postriderlaw06_tells.mono : ∀ k, LeO (postriderlaw06_tells.f k ) (postriderlaw06_tells.f (k + 1) ) := by
 intro  k
 unfold postriderlaw06_tells.f
 repeat' first
   | (with_reducible first | exact path_From.mono _ _ | exact path_To.mono _ _ | exact LeO.refl _ | exact LeO.none _ | refine LeO.ite ?_ ?_ | refine LeO.bind ?_ (fun _ => ?_))
set_option maxHeartbeats 8000000 in
set_option maxRecDepth 100000 in
theorem postriderlaw06_tells.calls (k : Nat)  (r : Bool) (w : World) (hG : Glob w) (hT : r = true) (h : postriderlaw06_tells.f k  = some r) :
  Calls Tryz.prog 11 #[] w fun e w' => e = .returned (.bool r) ∧ Below w.heap.size w w' := by
 have hu26 := Tryz.underlying26
 have hu46 := Tryz.underlying46
 have hu24 := Tryz.underlying24
 have HB := Aside0.mk (Below.refl w.heap.size w)
 have HG := Aside0.mk hG
 clear hG
 have HT_r := Aside0.mk hT
 clear hT
 have H : ((path_From.f k (⟨#[60, 97, 64, 98, 46, 99, 62, 32, 83, 73, 90, 69, 61, 53]⟩ : ByteArray)).bind fun bt291 => ((path_From.f k (⟨#[60, 64, 120, 44, 64, 121, 58, 97, 64, 98, 46, 99, 62]⟩ : ByteArray)).bind fun bt304 => ((path_From.f k (⟨#[60, 62]⟩ : ByteArray)).bind fun bt317 => ((path_To.f k (⟨#[60, 112, 111, 115, 116, 77, 97, 115, 116, 101, 114, 62]⟩ : ByteArray)).bind fun bt330 => ((path_To.f k (⟨#[60, 62]⟩ : ByteArray)).bind fun bt339 => (if bt291.2.2.2.2.2.2.2.2 = 0 then (if (bt291.2.2.2.1.toList == ([97] : List UInt8) && (bt291.2.2.2.2.1.toList == ([98, 46, 99] : List UInt8))) = true then (if bt291.2.2.2.2.2.2.2.1 = 5 then (if bt291.2.2.2.2.2.1 = true then (if bt304.2.2.2.2.2.2.2.2 = 0 then (if (bt304.2.2.1.length : Int) = 2 then (if 1 < (bt304.2.2.1.length : Int) then (if (rdOf ByteArray.empty bt304.2.2.1 1).toList = ([121] : List UInt8) then (if bt317.2.2.2.2.2.2.2.2 = 0 then (if bt317.1 = true then (if bt330.2.2.2.2.2 = 0 then (if bt330.2.1 = true then (some (bt339.2.2.2.2.2 == 5)) else (some false)) else (some false)) else (some false)) else (some false)) else (some false)) else (none)) else (some false)) else (some false)) else (some false)) else (some false)) else (some false)) else (some false))))))) = some r := h
 clear h
 obtain ⟨⟨t291, t292, t293, t296, t297, t298, t299, t300, t301⟩, A10, H⟩ := Option.bind_eq_some_iff.mp H
 replace H : ((path_From.f k (⟨#[60, 64, 120, 44, 64, 121, 58, 97, 64, 98, 46, 99, 62]⟩ : ByteArray)).bind fun bt304 => ((path_From.f k (⟨#[60, 62]⟩ : ByteArray)).bind fun bt317 => ((path_To.f k (⟨#[60, 112, 111, 115, 116, 77, 97, 115, 116, 101, 114, 62]⟩ : ByteArray)).bind fun bt330 => ((path_To.f k (⟨#[60, 62]⟩ : ByteArray)).bind fun bt339 => (if t301 = 0 then (if (t296.toList == ([97] : List UInt8) && (t297.toList == ([98, 46, 99] : List UInt8))) = true then (if t300 = 5 then (if t298 = true then (if bt304.2.2.2.2.2.2.2.2 = 0 then (if (bt304.2.2.1.length : Int) = 2 then (if 1 < (bt304.2.2.1.length : Int) then (if (rdOf ByteArray.empty bt304.2.2.1 1).toList = ([121] : List UInt8) then (if bt317.2.2.2.2.2.2.2.2 = 0 then (if bt317.1 = true then (if bt330.2.2.2.2.2 = 0 then (if bt330.2.1 = true then (some (bt339.2.2.2.2.2 == 5)) else (some false)) else (some false)) else (some false)) else (some false)) else (some false)) else (none)) else (some false)) else (some false)) else (some false)) else (some false)) else (some false)) else (some false)))))) = some r := H
 have A1 := Aside0.mk A10
 clear A10
 obtain ⟨⟨t304, t305, t306, t309, t310, t311, t312, t313, t314⟩, A20, H⟩ := Option.bind_eq_some_iff.mp H
 replace H : ((path_From.f k (⟨#[60, 62]⟩ : ByteArray)).bind fun bt317 => ((path_To.f k (⟨#[60, 112, 111, 115, 116, 77, 97, 115, 116, 101, 114, 62]⟩ : ByteArray)).bind fun bt330 => ((path_To.f k (⟨#[60, 62]⟩ : ByteArray)).bind fun bt339 => (if t301 = 0 then (if (t296.toList == ([97] : List UInt8) && (t297.toList == ([98, 46, 99] : List UInt8))) = true then (if t300 = 5 then (if t298 = true then (if t314 = 0 then (if (t306.length : Int) = 2 then (if 1 < (t306.length : Int) then (if (rdOf ByteArray.empty t306 1).toList = ([121] : List UInt8) then (if bt317.2.2.2.2.2.2.2.2 = 0 then (if bt317.1 = true then (if bt330.2.2.2.2.2 = 0 then (if bt330.2.1 = true then (some (bt339.2.2.2.2.2 == 5)) else (some false)) else (some false)) else (some false)) else (some false)) else (some false)) else (none)) else (some false)) else (some false)) else (some false)) else (some false)) else (some false)) else (some false))))) = some r := H
 have A2 := Aside0.mk A20
 clear A20
 obtain ⟨⟨t317, t318, t319, t322, t323, t324, t325, t326, t327⟩, A30, H⟩ := Option.bind_eq_some_iff.mp H
 replace H : ((path_To.f k (⟨#[60, 112, 111, 115, 116, 77, 97, 115, 116, 101, 114, 62]⟩ : ByteArray)).bind fun bt330 => ((path_To.f k (⟨#[60, 62]⟩ : ByteArray)).bind fun bt339 => (if t301 = 0 then (if (t296.toList == ([97] : List UInt8) && (t297.toList == ([98, 46, 99] : List UInt8))) = true then (if t300 = 5 then (if t298 = true then (if t314 = 0 then (if (t306.length : Int) = 2 then (if 1 < (t306.length : Int) then (if (rdOf ByteArray.empty t306 1).toList = ([121] : List UInt8) then (if t327 = 0 then (if t317 = true then (if bt330.2.2.2.2.2 = 0 then (if bt330.2.1 = true then (some (bt339.2.2.2.2.2 == 5)) else (some false)) else (some false)) else (some false)) else (some false)) else (some false)) else (none)) else (some false)) else (some false)) else (some false)) else (some false)) else (some false)) else (some false)))) = some r := H
 have A3 := Aside0.mk A30
 clear A30
 obtain ⟨⟨t330, t331, t332, t335, t336, t337⟩, A40, H⟩ := Option.bind_eq_some_iff.mp H
 replace H : ((path_To.f k (⟨#[60, 62]⟩ : ByteArray)).bind fun bt339 => (if t301 = 0 then (if (t296.toList == ([97] : List UInt8) && (t297.toList == ([98, 46, 99] : List UInt8))) = true then (if t300 = 5 then (if t298 = true then (if t314 = 0 then (if (t306.length : Int) = 2 then (if 1 < (t306.length : Int) then (if (rdOf ByteArray.empty t306 1).toList = ([121] : List UInt8) then (if t327 = 0 then (if t317 = true then (if t337 = 0 then (if t331 = true then (some (bt339.2.2.2.2.2 == 5)) else (some false)) else (some false)) else (some false)) else (some false)) else (some false)) else (none)) else (some false)) else (some false)) else (some false)) else (some false)) else (some false)) else (some false))) = some r := H
 have A4 := Aside0.mk A40
 clear A40
 obtain ⟨⟨t339, t340, t341, t344, t345, t346⟩, A50, H⟩ := Option.bind_eq_some_iff.mp H
 replace H : (if t301 = 0 then (if (t296.toList == ([97] : List UInt8) && (t297.toList == ([98, 46, 99] : List UInt8))) = true then (if t300 = 5 then (if t298 = true then (if t314 = 0 then (if (t306.length : Int) = 2 then (if 1 < (t306.length : Int) then (if (rdOf ByteArray.empty t306 1).toList = ([121] : List UInt8) then (if t327 = 0 then (if t317 = true then (if t337 = 0 then (if t331 = true then (some (t346 == 5)) else (some false)) else (some false)) else (some false)) else (some false)) else (some false)) else (none)) else (some false)) else (some false)) else (some false)) else (some false)) else (some false)) else (some false)) = some r := H
 have A5 := Aside0.mk A50
 clear A50
 by_cases c6 : t301 = 0
 ·rw [if_pos c6] at H
  have c6b0 : (t301 == 0) = true := beq_iff_eq.mpr c6
  have c6b1 : (t301 != 0) = false := bne_eq_false_iff_eq.mpr c6
  clear c6
  by_cases c7 : (t296.toList == ([97] : List UInt8) && (t297.toList == ([98, 46, 99] : List UInt8))) = true
  ·rw [if_pos c7] at H
   have c7b0 : (t296.toList == ([97] : List UInt8) && (t297.toList == ([98, 46, 99] : List UInt8))) = true := c7
   (try (have c7b1 : decide (t296.toList = ([97] : List UInt8) && (t297.toList == ([98, 46, 99] : List UInt8))) = true := by simpa using c7))
   (try (have c7b2 : (t296.toList == ([97] : List UInt8) && (t297.toList == ([98, 46, 99] : List UInt8))) = true := by simpa using c7))
   clear c7
   by_cases c8 : t300 = 5
   ·rw [if_pos c8] at H
    have c8b0 : (t300 == 5) = true := beq_iff_eq.mpr c8
    have c8b1 : (t300 != 5) = false := bne_eq_false_iff_eq.mpr c8
    clear c8
    by_cases c9 : t298 = true
    ·subst c9
     replace H : (if t314 = 0 then (if (t306.length : Int) = 2 then (if 1 < (t306.length : Int) then (if (rdOf ByteArray.empty t306 1).toList = ([121] : List UInt8) then (if t327 = 0 then (if t317 = true then (if t337 = 0 then (if t331 = true then (some (t346 == 5)) else (some false)) else (some false)) else (some false)) else (some false)) else (some false)) else (none)) else (some false)) else (some false)) = some r := by rw [if_pos rfl] at H; exact H
     by_cases c10 : t314 = 0
     ·rw [if_pos c10] at H
      have c10b0 : (t314 == 0) = true := beq_iff_eq.mpr c10
      have c10b1 : (t314 != 0) = false := bne_eq_false_iff_eq.mpr c10
      clear c10
      by_cases c11 : (t306.length : Int) = 2
      ·rw [if_pos c11] at H
       have c11b0 : ((t306.length : Int) == 2) = true := beq_iff_eq.mpr c11
       have c11b1 : ((t306.length : Int) != 2) = false := bne_eq_false_iff_eq.mpr c11
       clear c11
       by_cases c12 : 1 < (t306.length : Int)
       rotate_left
       ·rw [if_neg c12] at H
        exact ab H
       rw [if_pos c12] at H
       have c12b0 : decide (1 < (t306.length : Int)) = true := decide_eq_true c12
       have c12b1 : decide (1 < t306.length) = true := decide_eq_true (by omega)
       clear c12
       by_cases c13 : (rdOf ByteArray.empty t306 1).toList = ([121] : List UInt8)
       ·rw [if_pos c13] at H
        have c13b0 : ((rdOf ByteArray.empty t306 1).toList == ([121] : List UInt8)) = true := beq_iff_eq.mpr c13
        have c13b1 : ((rdOf ByteArray.empty t306 1).toList != ([121] : List UInt8)) = false := bne_eq_false_iff_eq.mpr c13
        clear c13
        by_cases c14 : t327 = 0
        ·rw [if_pos c14] at H
         have c14b0 : (t327 == 0) = true := beq_iff_eq.mpr c14
         have c14b1 : (t327 != 0) = false := bne_eq_false_iff_eq.mpr c14
         clear c14
         by_cases c15 : t317 = true
         ·subst c15
          replace H : (if t337 = 0 then (if t331 = true then (some (t346 == 5)) else (some false)) else (some false)) = some r := by rw [if_pos rfl] at H; exact H
          by_cases c16 : t337 = 0
          ·rw [if_pos c16] at H
           have c16b0 : (t337 == 0) = true := beq_iff_eq.mpr c16
           have c16b1 : (t337 != 0) = false := bne_eq_false_iff_eq.mpr c16
           clear c16
           by_cases c17 : t331 = true
           ·subst c17
            replace H : (some (t346 == 5)) = some r := by rw [if_pos rfl] at H; exact H
            obtain rfl := Option.some.inj H
            go_enter Tryz.func11, Tryz.ntmps11
            go_wp2_with (first | ((with_reducible refine gate_callee (f := 18) rfl ?_); refine goesL_ (some 15) rfl rfl Tryz.func18 kf rfl #[.string (⟨#[60, 97, 64, 98, 46, 99, 62, 32, 83, 73, 90, 69, 61, 53]⟩ : ByteArray)] rfl ml ?_; (with_reducible refine (path_From.calls k (⟨#[60, 97, 64, 98, 46, 99, 62, 32, 83, 73, 90, 69, 61, 53]⟩ : ByteArray) t291 t292 t293 t296 t297 true t299 t300 t301 _ ?side1 A1.out).mono ?_); (case side1 => exact Glob.below HG.out bl); rintro e w18 ⟨v294, rfl, ho0, hb⟩; refine ⟨_, rfl, ?_⟩; have HO295 := Aside0.mk (Kd.R_lower ho0 (below_size bl)); replace HB := Aside0.mk (below_step bl hb); (try clear hb); (try clear hb2); (try clear hk); (try clear hi); (try clear ho0)) | ((with_reducible refine gate_dst (N := 1) rfl ?_); (try (refine gate_guard (by rfl) ?_; dsimp only)); refine box_event ?hg (N := 1) ?hd (cs := #[.bool false, .bool false, .slice none 0 0, .string (⟨#[]⟩ : ByteArray), .string (⟨#[]⟩ : ByteArray)]) (t := 26) ?hr ?_; (case hd => rfl); (case hg => rfl); (case hr => first | (go_simp; done) | (go_simp; rfl)); intro gb302 hg w19 hbox hb; replace HO295 := Aside0.mk (Kd.R_below (kr HO295.out) hb); have BK302 := Aside0.mk (hbox); have GW302 := Aside0.mk (gz hg : w.heap.size ≤ gb302); have GE302 := Aside0.mk (gz hg : w.heap.size ≤ gb302); replace HB := Aside0.mk (below_step bl hb); clear hb hbox hg) | ((with_reducible refine gate_dst (N := 2) rfl ?_); (try (refine gate_guard (by rfl) ?_; dsimp only)); refine box_event ?hg (N := 2) ?hd (cs := #[.bool false, .bool false, .int .i64 0]) (t := 46) ?hr ?_; (case hd => rfl); (case hg => rfl); (case hr => first | (go_simp; done) | (go_simp; rfl)); intro gb303 hg w20 hbox hb; replace HO295 := Aside0.mk (Kd.R_below (kr HO295.out) hb); have BK303 := Aside0.mk (hbox); have GW303 := Aside0.mk (gz hg : w.heap.size ≤ gb303); have GE303 := Aside0.mk (gz hg : w.heap.size ≤ gb303); replace HB := Aside0.mk (below_step bl hb); have NB302_303 := Aside0.mk (nl hg BK302.out : gb302 ≠ gb303); have NB303_302 := Aside0.mk (ng hg BK302.out : gb303 ≠ gb302); replace BK302 := Aside0.mk (kb BK302.out hb); clear hb hbox hg; have hnb21 := NB302_303.out; have hnc21 := NB303_302.out; have hcz22_0 := cz BK302.out 0 (.bool false); have hcz22_1 := cz BK302.out 1 (.bool false); have hcz22_2 := cz BK302.out 2 (.slice none 0 0); have hcz22_3 := cz BK302.out 3 (.string (⟨#[]⟩ : ByteArray)); have hcz22_4 := cz BK302.out 4 (.string (⟨#[]⟩ : ByteArray)); have hfz22_0 := blk_frozen BK302.out 0; have hfz22_1 := blk_frozen BK302.out 1; have hfz22_2 := blk_frozen BK302.out 2; have hfz22_3 := blk_frozen BK302.out 3; have hfz22_4 := blk_frozen BK302.out 4; obtain ⟨Ao23, co23, eo23⟩ := Kd.R_slice HO295.out; subst eo23; have hcz24_0 := cz BK303.out 0 (.bool false); have hcz24_1 := cz BK303.out 1 (.bool false); have hcz24_2 := cz BK303.out 2 (.int .i64 0); have hfz24_0 := blk_frozen BK303.out 0; have hfz24_1 := blk_frozen BK303.out 1; have hfz24_2 := blk_frozen BK303.out 2) | ((with_reducible refine gate_callee (f := 18) rfl ?_); refine goesL_ (some 20) rfl rfl Tryz.func18 kf rfl #[.string (⟨#[60, 64, 120, 44, 64, 121, 58, 97, 64, 98, 46, 99, 62]⟩ : ByteArray)] rfl ml ?_; (with_reducible refine (path_From.calls k (⟨#[60, 64, 120, 44, 64, 121, 58, 97, 64, 98, 46, 99, 62]⟩ : ByteArray) t304 t305 t306 t309 t310 t311 t312 t313 t314 _ ?side1 A2.out).mono ?_); (case side1 => exact Glob.below HG.out bl); rintro e w25 ⟨v307, rfl, ho0, hb⟩; refine ⟨_, rfl, ?_⟩; have HO308 := Aside0.mk (Kd.R_lower (Kd.R_new' ho0 (Kd.R_lt (by (with_reducible repeat (first | apply Kd.R_alloc | apply Kd.R_drewN | apply Kd.R_drew)); exact (Kd.R_mono (Kd.R_mono (Kd.R_far (p := ⟨gb303, 2, none⟩) (Kd.R_far (p := ⟨gb303, 1, none⟩) (Kd.R_far (p := ⟨gb303, 0, none⟩) (Kd.R_far (p := ⟨gb302, 4, none⟩) (Kd.R_far (p := ⟨gb302, 3, none⟩) (Kd.R_far (p := ⟨gb302, 2, none⟩) (Kd.R_far (p := ⟨gb302, 1, none⟩) (Kd.R_far (p := ⟨gb302, 0, none⟩) (Kd.R_types (Kd.R_types HO295.out BK302.out (by decide)) BK303.out (by decide)) (fun _ hk => hk.1.2) (.bool t291)) (fun _ hk => hk.1.2) (.bool t292)) (fun _ hk => hk.1.2) (.slice Ao23 t293.length co23)) (fun _ hk => hk.1.2) (.string t296)) (fun _ hk => hk.1.2) (.string t297)) (fun _ hk => hk.2) (.bool true)) (fun _ hk => hk.2) (.bool t299)) (fun _ hk => hk.2) (.int .i64 t300)) (fun _ h_ => h_.1)) (fun _ h_ => h_.1))))) (below_size bl)); replace HO295 := Aside0.mk (Kd.R_elder' (by (with_reducible repeat (first | apply Kd.R_alloc | apply Kd.R_drewN | apply Kd.R_drew)); exact (Kd.R_mono (Kd.R_mono (Kd.R_far (p := ⟨gb303, 2, none⟩) (Kd.R_far (p := ⟨gb303, 1, none⟩) (Kd.R_far (p := ⟨gb303, 0, none⟩) (Kd.R_far (p := ⟨gb302, 4, none⟩) (Kd.R_far (p := ⟨gb302, 3, none⟩) (Kd.R_far (p := ⟨gb302, 2, none⟩) (Kd.R_far (p := ⟨gb302, 1, none⟩) (Kd.R_far (p := ⟨gb302, 0, none⟩) (Kd.R_types (Kd.R_types HO295.out BK302.out (by decide)) BK303.out (by decide)) (fun _ hk => hk.1.2) (.bool t291)) (fun _ hk => hk.1.2) (.bool t292)) (fun _ hk => hk.1.2) (.slice Ao23 t293.length co23)) (fun _ hk => hk.1.2) (.string t296)) (fun _ hk => hk.1.2) (.string t297)) (fun _ hk => hk.2) (.bool true)) (fun _ hk => hk.2) (.bool t299)) (fun _ hk => hk.2) (.int .i64 t300)) (fun _ h_ => h_.1)) (fun _ h_ => h_.1))) (Kd.R_base ho0) hb); replace BK302 := Aside0.mk (blk_below (g := gb302) (o := .cells #[.bool t291, .bool t292, .slice Ao23 t293.length co23, .string t296, .string t297] 26 (0, 0)) (by (with_reducible repeat (first | refine blk_drewN ?_ _ | refine blk_drew ?_ | refine blk_alloc ?_ _)); refine blk_far ?_ NB302_303.out _; (with_reducible repeat (first | refine blk_drewN ?_ _ | refine blk_drew ?_ | refine blk_alloc ?_ _)); refine blk_far ?_ NB302_303.out _; (with_reducible repeat (first | refine blk_drewN ?_ _ | refine blk_drew ?_ | refine blk_alloc ?_ _)); refine blk_far ?_ NB302_303.out _; (with_reducible repeat (first | refine blk_drewN ?_ _ | refine blk_drew ?_ | refine blk_alloc ?_ _)); refine blk_put (cs := #[.bool t291, .bool t292, .slice Ao23 t293.length co23, .string t296, .string (⟨#[]⟩ : ByteArray)]) ?_ 4 _ rfl; (with_reducible repeat (first | refine blk_drewN ?_ _ | refine blk_drew ?_ | refine blk_alloc ?_ _)); refine blk_put (cs := #[.bool t291, .bool t292, .slice Ao23 t293.length co23, .string (⟨#[]⟩ : ByteArray), .string (⟨#[]⟩ : ByteArray)]) ?_ 3 _ rfl; (with_reducible repeat (first | refine blk_drewN ?_ _ | refine blk_drew ?_ | refine blk_alloc ?_ _)); refine blk_put (cs := #[.bool t291, .bool t292, .slice none 0 0, .string (⟨#[]⟩ : ByteArray), .string (⟨#[]⟩ : ByteArray)]) ?_ 2 _ rfl; (with_reducible repeat (first | refine blk_drewN ?_ _ | refine blk_drew ?_ | refine blk_alloc ?_ _)); refine blk_put (cs := #[.bool t291, .bool false, .slice none 0 0, .string (⟨#[]⟩ : ByteArray), .string (⟨#[]⟩ : ByteArray)]) ?_ 1 _ rfl; (with_reducible repeat (first | refine blk_drewN ?_ _ | refine blk_drew ?_ | refine blk_alloc ?_ _)); refine blk_put (cs := #[.bool false, .bool false, .slice none 0 0, .string (⟨#[]⟩ : ByteArray), .string (⟨#[]⟩ : ByteArray)]) ?_ 0 _ rfl; (with_reducible repeat (first | refine blk_drewN ?_ _ | refine blk_drew ?_ | refine blk_alloc ?_ _)); exact BK302.out) hb); replace BK303 := Aside0.mk (blk_below (g := gb303) (o := .cells #[.bool true, .bool t299, .int .i64 t300] 46 (0, 0)) (by (with_reducible repeat (first | refine blk_drewN ?_ _ | refine blk_drew ?_ | refine blk_alloc ?_ _)); refine blk_put (cs := #[.bool true, .bool t299, .int .i64 0]) ?_ 2 _ rfl; (with_reducible repeat (first | refine blk_drewN ?_ _ | refine blk_drew ?_ | refine blk_alloc ?_ _)); refine blk_put (cs := #[.bool true, .bool false, .int .i64 0]) ?_ 1 _ rfl; (with_reducible repeat (first | refine blk_drewN ?_ _ | refine blk_drew ?_ | refine blk_alloc ?_ _)); refine blk_put (cs := #[.bool false, .bool false, .int .i64 0]) ?_ 0 _ rfl; (with_reducible repeat (first | refine blk_drewN ?_ _ | refine blk_drew ?_ | refine blk_alloc ?_ _)); refine blk_far ?_ NB303_302.out _; (with_reducible repeat (first | refine blk_drewN ?_ _ | refine blk_drew ?_ | refine blk_alloc ?_ _)); refine blk_far ?_ NB303_302.out _; (with_reducible repeat (first | refine blk_drewN ?_ _ | refine blk_drew ?_ | refine blk_alloc ?_ _)); refine blk_far ?_ NB303_302.out _; (with_reducible repeat (first | refine blk_drewN ?_ _ | refine blk_drew ?_ | refine blk_alloc ?_ _)); refine blk_far ?_ NB303_302.out _; (with_reducible repeat (first | refine blk_drewN ?_ _ | refine blk_drew ?_ | refine blk_alloc ?_ _)); refine blk_far ?_ NB303_302.out _; (with_reducible repeat (first | refine blk_drewN ?_ _ | refine blk_drew ?_ | refine blk_alloc ?_ _)); exact BK303.out) hb); replace HB := Aside0.mk (below_step bl hb); (try clear hb); (try clear hb2); (try clear hk); (try clear hi); (try clear ho0)) | ((with_reducible refine gate_dst (N := 4) rfl ?_); (try (refine gate_guard (by rfl) ?_; dsimp only)); refine box_event ?hg (N := 4) ?hd (cs := #[.bool false, .bool false, .slice none 0 0, .string (⟨#[]⟩ : ByteArray), .string (⟨#[]⟩ : ByteArray)]) (t := 26) ?hr ?_; (case hd => rfl); (case hg => rfl); (case hr => first | (go_simp; done) | (go_simp; rfl)); intro gb315 hg w26 hbox hb; replace HO295 := Aside0.mk (Kd.R_below (kr HO295.out) hb); replace HO308 := Aside0.mk (Kd.R_below (kr HO308.out) hb); have BK315 := Aside0.mk (hbox); have GW315 := Aside0.mk (gz hg : w.heap.size ≤ gb315); have GE315 := Aside0.mk (gz hg : w.heap.size ≤ gb315); replace HB := Aside0.mk (below_step bl hb); have NB302_315 := Aside0.mk (nl hg BK302.out : gb302 ≠ gb315); have NB315_302 := Aside0.mk (ng hg BK302.out : gb315 ≠ gb302); replace BK302 := Aside0.mk (kb BK302.out hb); have NB303_315 := Aside0.mk (nl hg BK303.out : gb303 ≠ gb315); have NB315_303 := Aside0.mk (ng hg BK303.out : gb315 ≠ gb303); replace BK303 := Aside0.mk (kb BK303.out hb); clear hb hbox hg) | ((with_reducible refine gate_dst (N := 5) rfl ?_); (try (refine gate_guard (by rfl) ?_; dsimp only)); refine box_event ?hg (N := 5) ?hd (cs := #[.bool false, .bool false, .int .i64 0]) (t := 46) ?hr ?_; (case hd => rfl); (case hg => rfl); (case hr => first | (go_simp; done) | (go_simp; rfl)); intro gb316 hg w27 hbox hb; replace HO295 := Aside0.mk (Kd.R_below (kr HO295.out) hb); replace HO308 := Aside0.mk (Kd.R_below (kr HO308.out) hb); have BK316 := Aside0.mk (hbox); have GW316 := Aside0.mk (gz hg : w.heap.size ≤ gb316); have GE316 := Aside0.mk (gz hg : w.heap.size ≤ gb316); replace HB := Aside0.mk (below_step bl hb); have NB302_316 := Aside0.mk (nl hg BK302.out : gb302 ≠ gb316); have NB316_302 := Aside0.mk (ng hg BK302.out : gb316 ≠ gb302); replace BK302 := Aside0.mk (kb BK302.out hb); have NB303_316 := Aside0.mk (nl hg BK303.out : gb303 ≠ gb316); have NB316_303 := Aside0.mk (ng hg BK303.out : gb316 ≠ gb303); replace BK303 := Aside0.mk (kb BK303.out hb); have NB315_316 := Aside0.mk (nl hg BK315.out : gb315 ≠ gb316); have NB316_315 := Aside0.mk (ng hg BK315.out : gb316 ≠ gb315); replace BK315 := Aside0.mk (kb BK315.out hb); clear hb hbox hg; have hnb28 := NB315_302.out; have hnc28 := NB302_315.out; have hnb29 := NB315_303.out; have hnc29 := NB303_315.out; have hnb30 := NB315_316.out; have hnc30 := NB316_315.out; have hcz31_0 := cz BK315.out 0 (.bool false); have hcz31_1 := cz BK315.out 1 (.bool false); have hcz31_2 := cz BK315.out 2 (.slice none 0 0); have hcz31_3 := cz BK315.out 3 (.string (⟨#[]⟩ : ByteArray)); have hcz31_4 := cz BK315.out 4 (.string (⟨#[]⟩ : ByteArray)); have hfz31_0 := blk_frozen BK315.out 0; have hfz31_1 := blk_frozen BK315.out 1; have hfz31_2 := blk_frozen BK315.out 2; have hfz31_3 := blk_frozen BK315.out 3; have hfz31_4 := blk_frozen BK315.out 4; obtain ⟨Ao32, co32, eo32⟩ := Kd.R_slice HO308.out; subst eo32; have hnb33 := NB316_302.out; have hnc33 := NB302_316.out; have hnb34 := NB316_303.out; have hnc34 := NB303_316.out; have hcz35_0 := cz BK316.out 0 (.bool false); have hcz35_1 := cz BK316.out 1 (.bool false); have hcz35_2 := cz BK316.out 2 (.int .i64 0); have hfz35_0 := blk_frozen BK316.out 0; have hfz35_1 := blk_frozen BK316.out 1; have hfz35_2 := blk_frozen BK316.out 2) | ((with_reducible refine gate_callee (f := 18) rfl ?_); refine goesL_ (some 25) rfl rfl Tryz.func18 kf rfl #[.string (⟨#[60, 62]⟩ : ByteArray)] rfl ml ?_; (with_reducible refine (path_From.calls k (⟨#[60, 62]⟩ : ByteArray) true t318 t319 t322 t323 t324 t325 t326 t327 _ ?side1 A3.out).mono ?_); (case side1 => exact Glob.below HG.out bl); rintro e w36 ⟨v320, rfl, ho0, hb⟩; refine ⟨_, rfl, ?_⟩; have HO321 := Aside0.mk (Kd.R_lower (Kd.R_new' (Kd.R_new' ho0 (Kd.R_lt (by (with_reducible repeat (first | apply Kd.R_alloc | apply Kd.R_drewN | apply Kd.R_drew)); exact (Kd.R_mono (Kd.R_mono (Kd.R_far (p := ⟨gb316, 2, none⟩) (Kd.R_far (p := ⟨gb316, 1, none⟩) (Kd.R_far (p := ⟨gb316, 0, none⟩) (Kd.R_far (p := ⟨gb315, 4, none⟩) (Kd.R_far (p := ⟨gb315, 3, none⟩) (Kd.R_far (p := ⟨gb315, 2, none⟩) (Kd.R_far (p := ⟨gb315, 1, none⟩) (Kd.R_far (p := ⟨gb315, 0, none⟩) (Kd.R_types (Kd.R_types HO295.out BK315.out (by decide)) BK316.out (by decide)) (fun _ hk => hk.1.2) (.bool t304)) (fun _ hk => hk.1.2) (.bool t305)) (fun _ hk => hk.1.2) (.slice Ao32 t306.length co32)) (fun _ hk => hk.1.2) (.string t309)) (fun _ hk => hk.1.2) (.string t310)) (fun _ hk => hk.2) (.bool t311)) (fun _ hk => hk.2) (.bool t312)) (fun _ hk => hk.2) (.int .i64 t313)) (fun _ h_ => h_.1)) (fun _ h_ => h_.1))))) (Kd.R_lt (by (with_reducible repeat (first | apply Kd.R_alloc | apply Kd.R_drewN | apply Kd.R_drew)); exact (Kd.R_mono (Kd.R_mono (Kd.R_far (p := ⟨gb316, 2, none⟩) (Kd.R_far (p := ⟨gb316, 1, none⟩) (Kd.R_far (p := ⟨gb316, 0, none⟩) (Kd.R_far (p := ⟨gb315, 4, none⟩) (Kd.R_far (p := ⟨gb315, 3, none⟩) (Kd.R_far (p := ⟨gb315, 2, none⟩) (Kd.R_far (p := ⟨gb315, 1, none⟩) (Kd.R_far (p := ⟨gb315, 0, none⟩) (Kd.R_types (Kd.R_types HO308.out BK315.out (by decide)) BK316.out (by decide)) (fun _ hk => hk.1.2) (.bool t304)) (fun _ hk => hk.1.2) (.bool t305)) (fun _ hk => hk.1.2) (.slice Ao32 t306.length co32)) (fun _ hk => hk.1.2) (.string t309)) (fun _ hk => hk.1.2) (.string t310)) (fun _ hk => hk.2) (.bool t311)) (fun _ hk => hk.2) (.bool t312)) (fun _ hk => hk.2) (.int .i64 t313)) (fun _ h_ => h_.1)) (fun _ h_ => h_.1))))) (below_size bl)); replace HO295 := Aside0.mk (Kd.R_elder' (by (with_reducible repeat (first | apply Kd.R_alloc | apply Kd.R_drewN | apply Kd.R_drew)); exact (Kd.R_mono (Kd.R_mono (Kd.R_far (p := ⟨gb316, 2, none⟩) (Kd.R_far (p := ⟨gb316, 1, none⟩) (Kd.R_far (p := ⟨gb316, 0, none⟩) (Kd.R_far (p := ⟨gb315, 4, none⟩) (Kd.R_far (p := ⟨gb315, 3, none⟩) (Kd.R_far (p := ⟨gb315, 2, none⟩) (Kd.R_far (p := ⟨gb315, 1, none⟩) (Kd.R_far (p := ⟨gb315, 0, none⟩) (Kd.R_types (Kd.R_types HO295.out BK315.out (by decide)) BK316.out (by decide)) (fun _ hk => hk.1.2) (.bool t304)) (fun _ hk => hk.1.2) (.bool t305)) (fun _ hk => hk.1.2) (.slice Ao32 t306.length co32)) (fun _ hk => hk.1.2) (.string t309)) (fun _ hk => hk.1.2) (.string t310)) (fun _ hk => hk.2) (.bool t311)) (fun _ hk => hk.2) (.bool t312)) (fun _ hk => hk.2) (.int .i64 t313)) (fun _ h_ => h_.1)) (fun _ h_ => h_.1))) (Kd.R_base ho0) hb); replace HO308 := Aside0.mk (Kd.R_elder' (by (with_reducible repeat (first | apply Kd.R_alloc | apply Kd.R_drewN | apply Kd.R_drew)); exact (Kd.R_mono (Kd.R_mono (Kd.R_far (p := ⟨gb316, 2, none⟩) (Kd.R_far (p := ⟨gb316, 1, none⟩) (Kd.R_far (p := ⟨gb316, 0, none⟩) (Kd.R_far (p := ⟨gb315, 4, none⟩) (Kd.R_far (p := ⟨gb315, 3, none⟩) (Kd.R_far (p := ⟨gb315, 2, none⟩) (Kd.R_far (p := ⟨gb315, 1, none⟩) (Kd.R_far (p := ⟨gb315, 0, none⟩) (Kd.R_types (Kd.R_types HO308.out BK315.out (by decide)) BK316.out (by decide)) (fun _ hk => hk.1.2) (.bool t304)) (fun _ hk => hk.1.2) (.bool t305)) (fun _ hk => hk.1.2) (.slice Ao32 t306.length co32)) (fun _ hk => hk.1.2) (.string t309)) (fun _ hk => hk.1.2) (.string t310)) (fun _ hk => hk.2) (.bool t311)) (fun _ hk => hk.2) (.bool t312)) (fun _ hk => hk.2) (.int .i64 t313)) (fun _ h_ => h_.1)) (fun _ h_ => h_.1))) (Kd.R_base ho0) hb); replace BK302 := Aside0.mk (kb BK302.out hb); replace BK303 := Aside0.mk (kb BK303.out hb); replace BK315 := Aside0.mk (blk_below (g := gb315) (o := .cells #[.bool t304, .bool t305, .slice Ao32 t306.length co32, .string t309, .string t310] 26 (0, 0)) (by (with_reducible repeat (first | refine blk_drewN ?_ _ | refine blk_drew ?_ | refine blk_alloc ?_ _)); refine blk_far ?_ NB315_316.out _; (with_reducible repeat (first | refine blk_drewN ?_ _ | refine blk_drew ?_ | refine blk_alloc ?_ _)); refine blk_far ?_ NB315_316.out _; (with_reducible repeat (first | refine blk_drewN ?_ _ | refine blk_drew ?_ | refine blk_alloc ?_ _)); refine blk_far ?_ NB315_316.out _; (with_reducible repeat (first | refine blk_drewN ?_ _ | refine blk_drew ?_ | refine blk_alloc ?_ _)); refine blk_put (cs := #[.bool t304, .bool t305, .slice Ao32 t306.length co32, .string t309, .string (⟨#[]⟩ : ByteArray)]) ?_ 4 _ rfl; (with_reducible repeat (first | refine blk_drewN ?_ _ | refine blk_drew ?_ | refine blk_alloc ?_ _)); refine blk_put (cs := #[.bool t304, .bool t305, .slice Ao32 t306.length co32, .string (⟨#[]⟩ : ByteArray), .string (⟨#[]⟩ : ByteArray)]) ?_ 3 _ rfl; (with_reducible repeat (first | refine blk_drewN ?_ _ | refine blk_drew ?_ | refine blk_alloc ?_ _)); refine blk_put (cs := #[.bool t304, .bool t305, .slice none 0 0, .string (⟨#[]⟩ : ByteArray), .string (⟨#[]⟩ : ByteArray)]) ?_ 2 _ rfl; (with_reducible repeat (first | refine blk_drewN ?_ _ | refine blk_drew ?_ | refine blk_alloc ?_ _)); refine blk_put (cs := #[.bool t304, .bool false, .slice none 0 0, .string (⟨#[]⟩ : ByteArray), .string (⟨#[]⟩ : ByteArray)]) ?_ 1 _ rfl; (with_reducible repeat (first | refine blk_drewN ?_ _ | refine blk_drew ?_ | refine blk_alloc ?_ _)); refine blk_put (cs := #[.bool false, .bool false, .slice none 0 0, .string (⟨#[]⟩ : ByteArray), .string (⟨#[]⟩ : ByteArray)]) ?_ 0 _ rfl; (with_reducible repeat (first | refine blk_drewN ?_ _ | refine blk_drew ?_ | refine blk_alloc ?_ _)); exact BK315.out) hb); replace BK316 := Aside0.mk (blk_below (g := gb316) (o := .cells #[.bool t311, .bool t312, .int .i64 t313] 46 (0, 0)) (by (with_reducible repeat (first | refine blk_drewN ?_ _ | refine blk_drew ?_ | refine blk_alloc ?_ _)); refine blk_put (cs := #[.bool t311, .bool t312, .int .i64 0]) ?_ 2 _ rfl; (with_reducible repeat (first | refine blk_drewN ?_ _ | refine blk_drew ?_ | refine blk_alloc ?_ _)); refine blk_put (cs := #[.bool t311, .bool false, .int .i64 0]) ?_ 1 _ rfl; (with_reducible repeat (first | refine blk_drewN ?_ _ | refine blk_drew ?_ | refine blk_alloc ?_ _)); refine blk_put (cs := #[.bool false, .bool false, .int .i64 0]) ?_ 0 _ rfl; (with_reducible repeat (first | refine blk_drewN ?_ _ | refine blk_drew ?_ | refine blk_alloc ?_ _)); refine blk_far ?_ NB316_315.out _; (with_reducible repeat (first | refine blk_drewN ?_ _ | refine blk_drew ?_ | refine blk_alloc ?_ _)); refine blk_far ?_ NB316_315.out _; (with_reducible repeat (first | refine blk_drewN ?_ _ | refine blk_drew ?_ | refine blk_alloc ?_ _)); refine blk_far ?_ NB316_315.out _; (with_reducible repeat (first | refine blk_drewN ?_ _ | refine blk_drew ?_ | refine blk_alloc ?_ _)); refine blk_far ?_ NB316_315.out _; (with_reducible repeat (first | refine blk_drewN ?_ _ | refine blk_drew ?_ | refine blk_alloc ?_ _)); refine blk_far ?_ NB316_315.out _; (with_reducible repeat (first | refine blk_drewN ?_ _ | refine blk_drew ?_ | refine blk_alloc ?_ _)); exact BK316.out) hb); replace HB := Aside0.mk (below_step bl hb); (try clear hb); (try clear hb2); (try clear hk); (try clear hi); (try clear ho0)) | ((with_reducible refine gate_dst (N := 7) rfl ?_); (try (refine gate_guard (by rfl) ?_; dsimp only)); refine box_event ?hg (N := 7) ?hd (cs := #[.bool false, .bool false, .slice none 0 0, .string (⟨#[]⟩ : ByteArray), .string (⟨#[]⟩ : ByteArray)]) (t := 26) ?hr ?_; (case hd => rfl); (case hg => rfl); (case hr => first | (go_simp; done) | (go_simp; rfl)); intro gb328 hg w37 hbox hb; replace HO295 := Aside0.mk (Kd.R_below (kr HO295.out) hb); replace HO308 := Aside0.mk (Kd.R_below (kr HO308.out) hb); replace HO321 := Aside0.mk (Kd.R_below (kr HO321.out) hb); have BK328 := Aside0.mk (hbox); have GW328 := Aside0.mk (gz hg : w.heap.size ≤ gb328); have GE328 := Aside0.mk (gz hg : w.heap.size ≤ gb328); replace HB := Aside0.mk (below_step bl hb); have NB302_328 := Aside0.mk (nl hg BK302.out : gb302 ≠ gb328); have NB328_302 := Aside0.mk (ng hg BK302.out : gb328 ≠ gb302); replace BK302 := Aside0.mk (kb BK302.out hb); have NB303_328 := Aside0.mk (nl hg BK303.out : gb303 ≠ gb328); have NB328_303 := Aside0.mk (ng hg BK303.out : gb328 ≠ gb303); replace BK303 := Aside0.mk (kb BK303.out hb); have NB315_328 := Aside0.mk (nl hg BK315.out : gb315 ≠ gb328); have NB328_315 := Aside0.mk (ng hg BK315.out : gb328 ≠ gb315); replace BK315 := Aside0.mk (kb BK315.out hb); have NB316_328 := Aside0.mk (nl hg BK316.out : gb316 ≠ gb328); have NB328_316 := Aside0.mk (ng hg BK316.out : gb328 ≠ gb316); replace BK316 := Aside0.mk (kb BK316.out hb); clear hb hbox hg) | ((with_reducible refine gate_dst (N := 8) rfl ?_); (try (refine gate_guard (by rfl) ?_; dsimp only)); refine box_event ?hg (N := 8) ?hd (cs := #[.bool false, .bool false, .int .i64 0]) (t := 46) ?hr ?_; (case hd => rfl); (case hg => rfl); (case hr => first | (go_simp; done) | (go_simp; rfl)); intro gb329 hg w38 hbox hb; replace HO295 := Aside0.mk (Kd.R_below (kr HO295.out) hb); replace HO308 := Aside0.mk (Kd.R_below (kr HO308.out) hb); replace HO321 := Aside0.mk (Kd.R_below (kr HO321.out) hb); have BK329 := Aside0.mk (hbox); have GW329 := Aside0.mk (gz hg : w.heap.size ≤ gb329); have GE329 := Aside0.mk (gz hg : w.heap.size ≤ gb329); replace HB := Aside0.mk (below_step bl hb); have NB302_329 := Aside0.mk (nl hg BK302.out : gb302 ≠ gb329); have NB329_302 := Aside0.mk (ng hg BK302.out : gb329 ≠ gb302); replace BK302 := Aside0.mk (kb BK302.out hb); have NB303_329 := Aside0.mk (nl hg BK303.out : gb303 ≠ gb329); have NB329_303 := Aside0.mk (ng hg BK303.out : gb329 ≠ gb303); replace BK303 := Aside0.mk (kb BK303.out hb); have NB315_329 := Aside0.mk (nl hg BK315.out : gb315 ≠ gb329); have NB329_315 := Aside0.mk (ng hg BK315.out : gb329 ≠ gb315); replace BK315 := Aside0.mk (kb BK315.out hb); have NB316_329 := Aside0.mk (nl hg BK316.out : gb316 ≠ gb329); have NB329_316 := Aside0.mk (ng hg BK316.out : gb329 ≠ gb316); replace BK316 := Aside0.mk (kb BK316.out hb); have NB328_329 := Aside0.mk (nl hg BK328.out : gb328 ≠ gb329); have NB329_328 := Aside0.mk (ng hg BK328.out : gb329 ≠ gb328); replace BK328 := Aside0.mk (kb BK328.out hb); clear hb hbox hg; have hnb39 := NB328_302.out; have hnc39 := NB302_328.out; have hnb40 := NB328_303.out; have hnc40 := NB303_328.out; have hnb41 := NB328_315.out; have hnc41 := NB315_328.out; have hnb42 := NB328_316.out; have hnc42 := NB316_328.out; have hnb43 := NB328_329.out; have hnc43 := NB329_328.out; have hcz44_0 := cz BK328.out 0 (.bool false); have hcz44_1 := cz BK328.out 1 (.bool false); have hcz44_2 := cz BK328.out 2 (.slice none 0 0); have hcz44_3 := cz BK328.out 3 (.string (⟨#[]⟩ : ByteArray)); have hcz44_4 := cz BK328.out 4 (.string (⟨#[]⟩ : ByteArray)); have hfz44_0 := blk_frozen BK328.out 0; have hfz44_1 := blk_frozen BK328.out 1; have hfz44_2 := blk_frozen BK328.out 2; have hfz44_3 := blk_frozen BK328.out 3; have hfz44_4 := blk_frozen BK328.out 4; obtain ⟨Ao45, co45, eo45⟩ := Kd.R_slice HO321.out; subst eo45; have hnb46 := NB329_302.out; have hnc46 := NB302_329.out; have hnb47 := NB329_303.out; have hnc47 := NB303_329.out; have hnb48 := NB329_315.out; have hnc48 := NB315_329.out; have hnb49 := NB329_316.out; have hnc49 := NB316_329.out; have hcz50_0 := cz BK329.out 0 (.bool false); have hcz50_1 := cz BK329.out 1 (.bool false); have hcz50_2 := cz BK329.out 2 (.int .i64 0); have hfz50_0 := blk_frozen BK329.out 0; have hfz50_1 := blk_frozen BK329.out 1; have hfz50_2 := blk_frozen BK329.out 2) | ((with_reducible refine gate_callee (f := 19) rfl ?_); refine goesL_ (some 30) rfl rfl Tryz.func19 kf rfl #[.string (⟨#[60, 112, 111, 115, 116, 77, 97, 115, 116, 101, 114, 62]⟩ : ByteArray)] rfl ml ?_; (with_reducible refine (path_To.calls k (⟨#[60, 112, 111, 115, 116, 77, 97, 115, 116, 101, 114, 62]⟩ : ByteArray) t330 true t332 t335 t336 t337 _ ?side1 A4.out).mono ?_); (case side1 => exact Glob.below HG.out bl); rintro e w51 ⟨v333, rfl, ho0, hb⟩; refine ⟨_, rfl, ?_⟩; have HO334 := Aside0.mk (Kd.R_lower (Kd.R_new' (Kd.R_new' (Kd.R_new' ho0 (Kd.R_lt (by (with_reducible repeat (first | apply Kd.R_alloc | apply Kd.R_drewN | apply Kd.R_drew)); exact (Kd.R_mono (Kd.R_mono (Kd.R_far (p := ⟨gb329, 2, none⟩) (Kd.R_far (p := ⟨gb329, 1, none⟩) (Kd.R_far (p := ⟨gb329, 0, none⟩) (Kd.R_far (p := ⟨gb328, 4, none⟩) (Kd.R_far (p := ⟨gb328, 3, none⟩) (Kd.R_far (p := ⟨gb328, 2, none⟩) (Kd.R_far (p := ⟨gb328, 1, none⟩) (Kd.R_far (p := ⟨gb328, 0, none⟩) (Kd.R_types (Kd.R_types HO295.out BK328.out (by decide)) BK329.out (by decide)) (fun _ hk => hk.1.2) (.bool true)) (fun _ hk => hk.1.2) (.bool t318)) (fun _ hk => hk.1.2) (.slice Ao45 t319.length co45)) (fun _ hk => hk.1.2) (.string t322)) (fun _ hk => hk.1.2) (.string t323)) (fun _ hk => hk.2) (.bool t324)) (fun _ hk => hk.2) (.bool t325)) (fun _ hk => hk.2) (.int .i64 t326)) (fun _ h_ => h_.1)) (fun _ h_ => h_.1))))) (Kd.R_lt (by (with_reducible repeat (first | apply Kd.R_alloc | apply Kd.R_drewN | apply Kd.R_drew)); exact (Kd.R_mono (Kd.R_mono (Kd.R_far (p := ⟨gb329, 2, none⟩) (Kd.R_far (p := ⟨gb329, 1, none⟩) (Kd.R_far (p := ⟨gb329, 0, none⟩) (Kd.R_far (p := ⟨gb328, 4, none⟩) (Kd.R_far (p := ⟨gb328, 3, none⟩) (Kd.R_far (p := ⟨gb328, 2, none⟩) (Kd.R_far (p := ⟨gb328, 1, none⟩) (Kd.R_far (p := ⟨gb328, 0, none⟩) (Kd.R_types (Kd.R_types HO308.out BK328.out (by decide)) BK329.out (by decide)) (fun _ hk => hk.1.2) (.bool true)) (fun _ hk => hk.1.2) (.bool t318)) (fun _ hk => hk.1.2) (.slice Ao45 t319.length co45)) (fun _ hk => hk.1.2) (.string t322)) (fun _ hk => hk.1.2) (.string t323)) (fun _ hk => hk.2) (.bool t324)) (fun _ hk => hk.2) (.bool t325)) (fun _ hk => hk.2) (.int .i64 t326)) (fun _ h_ => h_.1)) (fun _ h_ => h_.1))))) (Kd.R_lt (by (with_reducible repeat (first | apply Kd.R_alloc | apply Kd.R_drewN | apply Kd.R_drew)); exact (Kd.R_mono (Kd.R_mono (Kd.R_far (p := ⟨gb329, 2, none⟩) (Kd.R_far (p := ⟨gb329, 1, none⟩) (Kd.R_far (p := ⟨gb329, 0, none⟩) (Kd.R_far (p := ⟨gb328, 4, none⟩) (Kd.R_far (p := ⟨gb328, 3, none⟩) (Kd.R_far (p := ⟨gb328, 2, none⟩) (Kd.R_far (p := ⟨gb328, 1, none⟩) (Kd.R_far (p := ⟨gb328, 0, none⟩) (Kd.R_types (Kd.R_types HO321.out BK328.out (by decide)) BK329.out (by decide)) (fun _ hk => hk.1.2) (.bool true)) (fun _ hk => hk.1.2) (.bool t318)) (fun _ hk => hk.1.2) (.slice Ao45 t319.length co45)) (fun _ hk => hk.1.2) (.string t322)) (fun _ hk => hk.1.2) (.string t323)) (fun _ hk => hk.2) (.bool t324)) (fun _ hk => hk.2) (.bool t325)) (fun _ hk => hk.2) (.int .i64 t326)) (fun _ h_ => h_.1)) (fun _ h_ => h_.1))))) (below_size bl)); replace HO295 := Aside0.mk (Kd.R_elder' (by (with_reducible repeat (first | apply Kd.R_alloc | apply Kd.R_drewN | apply Kd.R_drew)); exact (Kd.R_mono (Kd.R_mono (Kd.R_far (p := ⟨gb329, 2, none⟩) (Kd.R_far (p := ⟨gb329, 1, none⟩) (Kd.R_far (p := ⟨gb329, 0, none⟩) (Kd.R_far (p := ⟨gb328, 4, none⟩) (Kd.R_far (p := ⟨gb328, 3, none⟩) (Kd.R_far (p := ⟨gb328, 2, none⟩) (Kd.R_far (p := ⟨gb328, 1, none⟩) (Kd.R_far (p := ⟨gb328, 0, none⟩) (Kd.R_types (Kd.R_types HO295.out BK328.out (by decide)) BK329.out (by decide)) (fun _ hk => hk.1.2) (.bool true)) (fun _ hk => hk.1.2) (.bool t318)) (fun _ hk => hk.1.2) (.slice Ao45 t319.length co45)) (fun _ hk => hk.1.2) (.string t322)) (fun _ hk => hk.1.2) (.string t323)) (fun _ hk => hk.2) (.bool t324)) (fun _ hk => hk.2) (.bool t325)) (fun _ hk => hk.2) (.int .i64 t326)) (fun _ h_ => h_.1)) (fun _ h_ => h_.1))) (Kd.R_base ho0) hb); replace HO308 := Aside0.mk (Kd.R_elder' (by (with_reducible repeat (first | apply Kd.R_alloc | apply Kd.R_drewN | apply Kd.R_drew)); exact (Kd.R_mono (Kd.R_mono (Kd.R_far (p := ⟨gb329, 2, none⟩) (Kd.R_far (p := ⟨gb329, 1, none⟩) (Kd.R_far (p := ⟨gb329, 0, none⟩) (Kd.R_far (p := ⟨gb328, 4, none⟩) (Kd.R_far (p := ⟨gb328, 3, none⟩) (Kd.R_far (p := ⟨gb328, 2, none⟩) (Kd.R_far (p := ⟨gb328, 1, none⟩) (Kd.R_far (p := ⟨gb328, 0, none⟩) (Kd.R_types (Kd.R_types HO308.out BK328.out (by decide)) BK329.out (by decide)) (fun _ hk => hk.1.2) (.bool true)) (fun _ hk => hk.1.2) (.bool t318)) (fun _ hk => hk.1.2) (.slice Ao45 t319.length co45)) (fun _ hk => hk.1.2) (.string t322)) (fun _ hk => hk.1.2) (.string t323)) (fun _ hk => hk.2) (.bool t324)) (fun _ hk => hk.2) (.bool t325)) (fun _ hk => hk.2) (.int .i64 t326)) (fun _ h_ => h_.1)) (fun _ h_ => h_.1))) (Kd.R_base ho0) hb); replace HO321 := Aside0.mk (Kd.R_elder' (by (with_reducible repeat (first | apply Kd.R_alloc | apply Kd.R_drewN | apply Kd.R_drew)); exact (Kd.R_mono (Kd.R_mono (Kd.R_far (p := ⟨gb329, 2, none⟩) (Kd.R_far (p := ⟨gb329, 1, none⟩) (Kd.R_far (p := ⟨gb329, 0, none⟩) (Kd.R_far (p := ⟨gb328, 4, none⟩) (Kd.R_far (p := ⟨gb328, 3, none⟩) (Kd.R_far (p := ⟨gb328, 2, none⟩) (Kd.R_far (p := ⟨gb328, 1, none⟩) (Kd.R_far (p := ⟨gb328, 0, none⟩) (Kd.R_types (Kd.R_types HO321.out BK328.out (by decide)) BK329.out (by decide)) (fun _ hk => hk.1.2) (.bool true)) (fun _ hk => hk.1.2) (.bool t318)) (fun _ hk => hk.1.2) (.slice Ao45 t319.length co45)) (fun _ hk => hk.1.2) (.string t322)) (fun _ hk => hk.1.2) (.string t323)) (fun _ hk => hk.2) (.bool t324)) (fun _ hk => hk.2) (.bool t325)) (fun _ hk => hk.2) (.int .i64 t326)) (fun _ h_ => h_.1)) (fun _ h_ => h_.1))) (Kd.R_base ho0) hb); replace BK302 := Aside0.mk (kb BK302.out hb); replace BK303 := Aside0.mk (kb BK303.out hb); replace BK315 := Aside0.mk (kb BK315.out hb); replace BK316 := Aside0.mk (kb BK316.out hb); replace BK328 := Aside0.mk (blk_below (g := gb328) (o := .cells #[.bool true, .bool t318, .slice Ao45 t319.length co45, .string t322, .string t323] 26 (0, 0)) (by (with_reducible repeat (first | refine blk_drewN ?_ _ | refine blk_drew ?_ | refine blk_alloc ?_ _)); refine blk_far ?_ NB328_329.out _; (with_reducible repeat (first | refine blk_drewN ?_ _ | refine blk_drew ?_ | refine blk_alloc ?_ _)); refine blk_far ?_ NB328_329.out _; (with_reducible repeat (first | refine blk_drewN ?_ _ | refine blk_drew ?_ | refine blk_alloc ?_ _)); refine blk_far ?_ NB328_329.out _; (with_reducible repeat (first | refine blk_drewN ?_ _ | refine blk_drew ?_ | refine blk_alloc ?_ _)); refine blk_put (cs := #[.bool true, .bool t318, .slice Ao45 t319.length co45, .string t322, .string (⟨#[]⟩ : ByteArray)]) ?_ 4 _ rfl; (with_reducible repeat (first | refine blk_drewN ?_ _ | refine blk_drew ?_ | refine blk_alloc ?_ _)); refine blk_put (cs := #[.bool true, .bool t318, .slice Ao45 t319.length co45, .string (⟨#[]⟩ : ByteArray), .string (⟨#[]⟩ : ByteArray)]) ?_ 3 _ rfl; (with_reducible repeat (first | refine blk_drewN ?_ _ | refine blk_drew ?_ | refine blk_alloc ?_ _)); refine blk_put (cs := #[.bool true, .bool t318, .slice none 0 0, .string (⟨#[]⟩ : ByteArray), .string (⟨#[]⟩ : ByteArray)]) ?_ 2 _ rfl; (with_reducible repeat (first | refine blk_drewN ?_ _ | refine blk_drew ?_ | refine blk_alloc ?_ _)); refine blk_put (cs := #[.bool true, .bool false, .slice none 0 0, .string (⟨#[]⟩ : ByteArray), .string (⟨#[]⟩ : ByteArray)]) ?_ 1 _ rfl; (with_reducible repeat (first | refine blk_drewN ?_ _ | refine blk_drew ?_ | refine blk_alloc ?_ _)); refine blk_put (cs := #[.bool false, .bool false, .slice none 0 0, .string (⟨#[]⟩ : ByteArray), .string (⟨#[]⟩ : ByteArray)]) ?_ 0 _ rfl; (with_reducible repeat (first | refine blk_drewN ?_ _ | refine blk_drew ?_ | refine blk_alloc ?_ _)); exact BK328.out) hb); replace BK329 := Aside0.mk (blk_below (g := gb329) (o := .cells #[.bool t324, .bool t325, .int .i64 t326] 46 (0, 0)) (by (with_reducible repeat (first | refine blk_drewN ?_ _ | refine blk_drew ?_ | refine blk_alloc ?_ _)); refine blk_put (cs := #[.bool t324, .bool t325, .int .i64 0]) ?_ 2 _ rfl; (with_reducible repeat (first | refine blk_drewN ?_ _ | refine blk_drew ?_ | refine blk_alloc ?_ _)); refine blk_put (cs := #[.bool t324, .bool false, .int .i64 0]) ?_ 1 _ rfl; (with_reducible repeat (first | refine blk_drewN ?_ _ | refine blk_drew ?_ | refine blk_alloc ?_ _)); refine blk_put (cs := #[.bool false, .bool false, .int .i64 0]) ?_ 0 _ rfl; (with_reducible repeat (first | refine blk_drewN ?_ _ | refine blk_drew ?_ | refine blk_alloc ?_ _)); refine blk_far ?_ NB329_328.out _; (with_reducible repeat (first | refine blk_drewN ?_ _ | refine blk_drew ?_ | refine blk_alloc ?_ _)); refine blk_far ?_ NB329_328.out _; (with_reducible repeat (first | refine blk_drewN ?_ _ | refine blk_drew ?_ | refine blk_alloc ?_ _)); refine blk_far ?_ NB329_328.out _; (with_reducible repeat (first | refine blk_drewN ?_ _ | refine blk_drew ?_ | refine blk_alloc ?_ _)); refine blk_far ?_ NB329_328.out _; (with_reducible repeat (first | refine blk_drewN ?_ _ | refine blk_drew ?_ | refine blk_alloc ?_ _)); refine blk_far ?_ NB329_328.out _; (with_reducible repeat (first | refine blk_drewN ?_ _ | refine blk_drew ?_ | refine blk_alloc ?_ _)); exact BK329.out) hb); replace HB := Aside0.mk (below_step bl hb); (try clear hb); (try clear hb2); (try clear hk); (try clear hi); (try clear ho0)) | ((with_reducible refine gate_dst (N := 10) rfl ?_); (try (refine gate_guard (by rfl) ?_; dsimp only)); refine box_event ?hg (N := 10) ?hd (cs := #[.bool false, .bool false, .slice none 0 0, .string (⟨#[]⟩ : ByteArray), .string (⟨#[]⟩ : ByteArray)]) (t := 26) ?hr ?_; (case hd => rfl); (case hg => rfl); (case hr => first | (go_simp; done) | (go_simp; rfl)); intro gb338 hg w52 hbox hb; replace HO295 := Aside0.mk (Kd.R_below (kr HO295.out) hb); replace HO308 := Aside0.mk (Kd.R_below (kr HO308.out) hb); replace HO321 := Aside0.mk (Kd.R_below (kr HO321.out) hb); replace HO334 := Aside0.mk (Kd.R_below (kr HO334.out) hb); have BK338 := Aside0.mk (hbox); have GW338 := Aside0.mk (gz hg : w.heap.size ≤ gb338); have GE338 := Aside0.mk (gz hg : w.heap.size ≤ gb338); replace HB := Aside0.mk (below_step bl hb); have NB302_338 := Aside0.mk (nl hg BK302.out : gb302 ≠ gb338); have NB338_302 := Aside0.mk (ng hg BK302.out : gb338 ≠ gb302); replace BK302 := Aside0.mk (kb BK302.out hb); have NB303_338 := Aside0.mk (nl hg BK303.out : gb303 ≠ gb338); have NB338_303 := Aside0.mk (ng hg BK303.out : gb338 ≠ gb303); replace BK303 := Aside0.mk (kb BK303.out hb); have NB315_338 := Aside0.mk (nl hg BK315.out : gb315 ≠ gb338); have NB338_315 := Aside0.mk (ng hg BK315.out : gb338 ≠ gb315); replace BK315 := Aside0.mk (kb BK315.out hb); have NB316_338 := Aside0.mk (nl hg BK316.out : gb316 ≠ gb338); have NB338_316 := Aside0.mk (ng hg BK316.out : gb338 ≠ gb316); replace BK316 := Aside0.mk (kb BK316.out hb); have NB328_338 := Aside0.mk (nl hg BK328.out : gb328 ≠ gb338); have NB338_328 := Aside0.mk (ng hg BK328.out : gb338 ≠ gb328); replace BK328 := Aside0.mk (kb BK328.out hb); have NB329_338 := Aside0.mk (nl hg BK329.out : gb329 ≠ gb338); have NB338_329 := Aside0.mk (ng hg BK329.out : gb338 ≠ gb329); replace BK329 := Aside0.mk (kb BK329.out hb); clear hb hbox hg; have hnb53 := NB338_302.out; have hnc53 := NB302_338.out; have hnb54 := NB338_303.out; have hnc54 := NB303_338.out; have hnb55 := NB338_315.out; have hnc55 := NB315_338.out; have hnb56 := NB338_316.out; have hnc56 := NB316_338.out; have hnb57 := NB338_328.out; have hnc57 := NB328_338.out; have hnb58 := NB338_329.out; have hnc58 := NB329_338.out; have hcz59_0 := cz BK338.out 0 (.bool false); have hcz59_1 := cz BK338.out 1 (.bool false); have hcz59_2 := cz BK338.out 2 (.slice none 0 0); have hcz59_3 := cz BK338.out 3 (.string (⟨#[]⟩ : ByteArray)); have hcz59_4 := cz BK338.out 4 (.string (⟨#[]⟩ : ByteArray)); have hfz59_0 := blk_frozen BK338.out 0; have hfz59_1 := blk_frozen BK338.out 1; have hfz59_2 := blk_frozen BK338.out 2; have hfz59_3 := blk_frozen BK338.out 3; have hfz59_4 := blk_frozen BK338.out 4; obtain ⟨Ao60, co60, eo60⟩ := Kd.R_slice HO334.out; subst eo60) | ((with_reducible refine gate_callee (f := 19) rfl ?_); refine goesL_ (some 34) rfl rfl Tryz.func19 kf rfl #[.string (⟨#[60, 62]⟩ : ByteArray)] rfl ml ?_; (with_reducible refine (path_To.calls k (⟨#[60, 62]⟩ : ByteArray) t339 t340 t341 t344 t345 t346 _ ?side1 A5.out).mono ?_); (case side1 => exact Glob.below HG.out bl); rintro e w61 ⟨v342, rfl, ho0, hb⟩; refine ⟨_, rfl, ?_⟩; have HO343 := Aside0.mk (Kd.R_lower (Kd.R_new' (Kd.R_new' (Kd.R_new' (Kd.R_new' ho0 (Kd.R_lt (by (with_reducible repeat (first | apply Kd.R_alloc | apply Kd.R_drewN | apply Kd.R_drew)); exact (Kd.R_mono (Kd.R_far (p := ⟨gb338, 4, none⟩) (Kd.R_far (p := ⟨gb338, 3, none⟩) (Kd.R_far (p := ⟨gb338, 2, none⟩) (Kd.R_far (p := ⟨gb338, 1, none⟩) (Kd.R_far (p := ⟨gb338, 0, none⟩) (Kd.R_types HO295.out BK338.out (by decide)) (fun _ hk => hk.2) (.bool t330)) (fun _ hk => hk.2) (.bool true)) (fun _ hk => hk.2) (.slice Ao60 t332.length co60)) (fun _ hk => hk.2) (.string t335)) (fun _ hk => hk.2) (.string t336)) (fun _ h_ => h_.1))))) (Kd.R_lt (by (with_reducible repeat (first | apply Kd.R_alloc | apply Kd.R_drewN | apply Kd.R_drew)); exact (Kd.R_mono (Kd.R_far (p := ⟨gb338, 4, none⟩) (Kd.R_far (p := ⟨gb338, 3, none⟩) (Kd.R_far (p := ⟨gb338, 2, none⟩) (Kd.R_far (p := ⟨gb338, 1, none⟩) (Kd.R_far (p := ⟨gb338, 0, none⟩) (Kd.R_types HO308.out BK338.out (by decide)) (fun _ hk => hk.2) (.bool t330)) (fun _ hk => hk.2) (.bool true)) (fun _ hk => hk.2) (.slice Ao60 t332.length co60)) (fun _ hk => hk.2) (.string t335)) (fun _ hk => hk.2) (.string t336)) (fun _ h_ => h_.1))))) (Kd.R_lt (by (with_reducible repeat (first | apply Kd.R_alloc | apply Kd.R_drewN | apply Kd.R_drew)); exact (Kd.R_mono (Kd.R_far (p := ⟨gb338, 4, none⟩) (Kd.R_far (p := ⟨gb338, 3, none⟩) (Kd.R_far (p := ⟨gb338, 2, none⟩) (Kd.R_far (p := ⟨gb338, 1, none⟩) (Kd.R_far (p := ⟨gb338, 0, none⟩) (Kd.R_types HO321.out BK338.out (by decide)) (fun _ hk => hk.2) (.bool t330)) (fun _ hk => hk.2) (.bool true)) (fun _ hk => hk.2) (.slice Ao60 t332.length co60)) (fun _ hk => hk.2) (.string t335)) (fun _ hk => hk.2) (.string t336)) (fun _ h_ => h_.1))))) (Kd.R_lt (by (with_reducible repeat (first | apply Kd.R_alloc | apply Kd.R_drewN | apply Kd.R_drew)); exact (Kd.R_mono (Kd.R_far (p := ⟨gb338, 4, none⟩) (Kd.R_far (p := ⟨gb338, 3, none⟩) (Kd.R_far (p := ⟨gb338, 2, none⟩) (Kd.R_far (p := ⟨gb338, 1, none⟩) (Kd.R_far (p := ⟨gb338, 0, none⟩) (Kd.R_types HO334.out BK338.out (by decide)) (fun _ hk => hk.2) (.bool t330)) (fun _ hk => hk.2) (.bool true)) (fun _ hk => hk.2) (.slice Ao60 t332.length co60)) (fun _ hk => hk.2) (.string t335)) (fun _ hk => hk.2) (.string t336)) (fun _ h_ => h_.1))))) (below_size bl)); replace HO295 := Aside0.mk (Kd.R_elder' (by (with_reducible repeat (first | apply Kd.R_alloc | apply Kd.R_drewN | apply Kd.R_drew)); exact (Kd.R_mono (Kd.R_far (p := ⟨gb338, 4, none⟩) (Kd.R_far (p := ⟨gb338, 3, none⟩) (Kd.R_far (p := ⟨gb338, 2, none⟩) (Kd.R_far (p := ⟨gb338, 1, none⟩) (Kd.R_far (p := ⟨gb338, 0, none⟩) (Kd.R_types HO295.out BK338.out (by decide)) (fun _ hk => hk.2) (.bool t330)) (fun _ hk => hk.2) (.bool true)) (fun _ hk => hk.2) (.slice Ao60 t332.length co60)) (fun _ hk => hk.2) (.string t335)) (fun _ hk => hk.2) (.string t336)) (fun _ h_ => h_.1))) (Kd.R_base ho0) hb); replace HO308 := Aside0.mk (Kd.R_elder' (by (with_reducible repeat (first | apply Kd.R_alloc | apply Kd.R_drewN | apply Kd.R_drew)); exact (Kd.R_mono (Kd.R_far (p := ⟨gb338, 4, none⟩) (Kd.R_far (p := ⟨gb338, 3, none⟩) (Kd.R_far (p := ⟨gb338, 2, none⟩) (Kd.R_far (p := ⟨gb338, 1, none⟩) (Kd.R_far (p := ⟨gb338, 0, none⟩) (Kd.R_types HO308.out BK338.out (by decide)) (fun _ hk => hk.2) (.bool t330)) (fun _ hk => hk.2) (.bool true)) (fun _ hk => hk.2) (.slice Ao60 t332.length co60)) (fun _ hk => hk.2) (.string t335)) (fun _ hk => hk.2) (.string t336)) (fun _ h_ => h_.1))) (Kd.R_base ho0) hb); replace HO321 := Aside0.mk (Kd.R_elder' (by (with_reducible repeat (first | apply Kd.R_alloc | apply Kd.R_drewN | apply Kd.R_drew)); exact (Kd.R_mono (Kd.R_far (p := ⟨gb338, 4, none⟩) (Kd.R_far (p := ⟨gb338, 3, none⟩) (Kd.R_far (p := ⟨gb338, 2, none⟩) (Kd.R_far (p := ⟨gb338, 1, none⟩) (Kd.R_far (p := ⟨gb338, 0, none⟩) (Kd.R_types HO321.out BK338.out (by decide)) (fun _ hk => hk.2) (.bool t330)) (fun _ hk => hk.2) (.bool true)) (fun _ hk => hk.2) (.slice Ao60 t332.length co60)) (fun _ hk => hk.2) (.string t335)) (fun _ hk => hk.2) (.string t336)) (fun _ h_ => h_.1))) (Kd.R_base ho0) hb); replace HO334 := Aside0.mk (Kd.R_elder' (by (with_reducible repeat (first | apply Kd.R_alloc | apply Kd.R_drewN | apply Kd.R_drew)); exact (Kd.R_mono (Kd.R_far (p := ⟨gb338, 4, none⟩) (Kd.R_far (p := ⟨gb338, 3, none⟩) (Kd.R_far (p := ⟨gb338, 2, none⟩) (Kd.R_far (p := ⟨gb338, 1, none⟩) (Kd.R_far (p := ⟨gb338, 0, none⟩) (Kd.R_types HO334.out BK338.out (by decide)) (fun _ hk => hk.2) (.bool t330)) (fun _ hk => hk.2) (.bool true)) (fun _ hk => hk.2) (.slice Ao60 t332.length co60)) (fun _ hk => hk.2) (.string t335)) (fun _ hk => hk.2) (.string t336)) (fun _ h_ => h_.1))) (Kd.R_base ho0) hb); replace BK302 := Aside0.mk (kb BK302.out hb); replace BK303 := Aside0.mk (kb BK303.out hb); replace BK315 := Aside0.mk (kb BK315.out hb); replace BK316 := Aside0.mk (kb BK316.out hb); replace BK328 := Aside0.mk (kb BK328.out hb); replace BK329 := Aside0.mk (kb BK329.out hb); replace BK338 := Aside0.mk (blk_below (g := gb338) (o := .cells #[.bool t330, .bool true, .slice Ao60 t332.length co60, .string t335, .string t336] 26 (0, 0)) (by (with_reducible repeat (first | refine blk_drewN ?_ _ | refine blk_drew ?_ | refine blk_alloc ?_ _)); refine blk_put (cs := #[.bool t330, .bool true, .slice Ao60 t332.length co60, .string t335, .string (⟨#[]⟩ : ByteArray)]) ?_ 4 _ rfl; (with_reducible repeat (first | refine blk_drewN ?_ _ | refine blk_drew ?_ | refine blk_alloc ?_ _)); refine blk_put (cs := #[.bool t330, .bool true, .slice Ao60 t332.length co60, .string (⟨#[]⟩ : ByteArray), .string (⟨#[]⟩ : ByteArray)]) ?_ 3 _ rfl; (with_reducible repeat (first | refine blk_drewN ?_ _ | refine blk_drew ?_ | refine blk_alloc ?_ _)); refine blk_put (cs := #[.bool t330, .bool true, .slice none 0 0, .string (⟨#[]⟩ : ByteArray), .string (⟨#[]⟩ : ByteArray)]) ?_ 2 _ rfl; (with_reducible repeat (first | refine blk_drewN ?_ _ | refine blk_drew ?_ | refine blk_alloc ?_ _)); refine blk_put (cs := #[.bool t330, .bool false, .slice none 0 0, .string (⟨#[]⟩ : ByteArray), .string (⟨#[]⟩ : ByteArray)]) ?_ 1 _ rfl; (with_reducible repeat (first | refine blk_drewN ?_ _ | refine blk_drew ?_ | refine blk_alloc ?_ _)); refine blk_put (cs := #[.bool false, .bool false, .slice none 0 0, .string (⟨#[]⟩ : ByteArray), .string (⟨#[]⟩ : ByteArray)]) ?_ 0 _ rfl; (with_reducible repeat (first | refine blk_drewN ?_ _ | refine blk_drew ?_ | refine blk_alloc ?_ _)); exact BK338.out) hb); replace HB := Aside0.mk (below_step bl hb); (try clear hb); (try clear hb2); (try clear hk); (try clear hi); (try clear ho0)) | ((with_reducible refine gate_dst (N := 12) rfl ?_); (try (refine gate_guard (by rfl) ?_; dsimp only)); refine box_event ?hg (N := 12) ?hd (cs := #[.bool false, .bool false, .slice none 0 0, .string (⟨#[]⟩ : ByteArray), .string (⟨#[]⟩ : ByteArray)]) (t := 26) ?hr ?_; (case hd => rfl); (case hg => rfl); (case hr => first | (go_simp; done) | (go_simp; rfl)); intro gb347 hg w62 hbox hb; replace HO295 := Aside0.mk (Kd.R_below (kr HO295.out) hb); replace HO308 := Aside0.mk (Kd.R_below (kr HO308.out) hb); replace HO321 := Aside0.mk (Kd.R_below (kr HO321.out) hb); replace HO334 := Aside0.mk (Kd.R_below (kr HO334.out) hb); replace HO343 := Aside0.mk (Kd.R_below (kr HO343.out) hb); have BK347 := Aside0.mk (hbox); have GW347 := Aside0.mk (gz hg : w.heap.size ≤ gb347); have GE347 := Aside0.mk (gz hg : w.heap.size ≤ gb347); replace HB := Aside0.mk (below_step bl hb); have NB302_347 := Aside0.mk (nl hg BK302.out : gb302 ≠ gb347); have NB347_302 := Aside0.mk (ng hg BK302.out : gb347 ≠ gb302); replace BK302 := Aside0.mk (kb BK302.out hb); have NB303_347 := Aside0.mk (nl hg BK303.out : gb303 ≠ gb347); have NB347_303 := Aside0.mk (ng hg BK303.out : gb347 ≠ gb303); replace BK303 := Aside0.mk (kb BK303.out hb); have NB315_347 := Aside0.mk (nl hg BK315.out : gb315 ≠ gb347); have NB347_315 := Aside0.mk (ng hg BK315.out : gb347 ≠ gb315); replace BK315 := Aside0.mk (kb BK315.out hb); have NB316_347 := Aside0.mk (nl hg BK316.out : gb316 ≠ gb347); have NB347_316 := Aside0.mk (ng hg BK316.out : gb347 ≠ gb316); replace BK316 := Aside0.mk (kb BK316.out hb); have NB328_347 := Aside0.mk (nl hg BK328.out : gb328 ≠ gb347); have NB347_328 := Aside0.mk (ng hg BK328.out : gb347 ≠ gb328); replace BK328 := Aside0.mk (kb BK328.out hb); have NB329_347 := Aside0.mk (nl hg BK329.out : gb329 ≠ gb347); have NB347_329 := Aside0.mk (ng hg BK329.out : gb347 ≠ gb329); replace BK329 := Aside0.mk (kb BK329.out hb); have NB338_347 := Aside0.mk (nl hg BK338.out : gb338 ≠ gb347); have NB347_338 := Aside0.mk (ng hg BK338.out : gb347 ≠ gb338); replace BK338 := Aside0.mk (kb BK338.out hb); clear hb hbox hg; have hnb63 := NB347_302.out; have hnc63 := NB302_347.out; have hnb64 := NB347_303.out; have hnc64 := NB303_347.out; have hnb65 := NB347_315.out; have hnc65 := NB315_347.out; have hnb66 := NB347_316.out; have hnc66 := NB316_347.out; have hnb67 := NB347_328.out; have hnc67 := NB328_347.out; have hnb68 := NB347_329.out; have hnc68 := NB329_347.out; have hnb69 := NB347_338.out; have hnc69 := NB338_347.out; have hcz70_0 := cz BK347.out 0 (.bool false); have hcz70_1 := cz BK347.out 1 (.bool false); have hcz70_2 := cz BK347.out 2 (.slice none 0 0); have hcz70_3 := cz BK347.out 3 (.string (⟨#[]⟩ : ByteArray)); have hcz70_4 := cz BK347.out 4 (.string (⟨#[]⟩ : ByteArray)); have hfz70_0 := blk_frozen BK347.out 0; have hfz70_1 := blk_frozen BK347.out 1; have hfz70_2 := blk_frozen BK347.out 2; have hfz70_3 := blk_frozen BK347.out 3; have hfz70_4 := blk_frozen BK347.out 4; obtain ⟨Ao71, co71, eo71⟩ := Kd.R_slice HO343.out; subst eo71; have hcz72_0 := cz BK302.out 0 (.bool t291); have hcz72_1 := cz BK302.out 1 (.bool t292); have hcz72_2 := cz BK302.out 2 (.slice Ao23 t293.length co23); have hcz72_3 := cz BK302.out 3 (.string t296); have hcz72_4 := cz BK302.out 4 (.string t297); have hfz72_0 := blk_frozen BK302.out 0; have hfz72_1 := blk_frozen BK302.out 1; have hfz72_2 := blk_frozen BK302.out 2; have hfz72_3 := blk_frozen BK302.out 3; have hfz72_4 := blk_frozen BK302.out 4; have hcz73_0 := cz BK303.out 0 (.bool true); have hcz73_1 := cz BK303.out 1 (.bool t299); have hcz73_2 := cz BK303.out 2 (.int .i64 t300); have hfz73_0 := blk_frozen BK303.out 0; have hfz73_1 := blk_frozen BK303.out 1; have hfz73_2 := blk_frozen BK303.out 2; have hcz74_0 := cz BK315.out 0 (.bool t304); have hcz74_1 := cz BK315.out 1 (.bool t305); have hcz74_2 := cz BK315.out 2 (.slice Ao32 t306.length co32); have hcz74_3 := cz BK315.out 3 (.string t309); have hcz74_4 := cz BK315.out 4 (.string t310); have hfz74_0 := blk_frozen BK315.out 0; have hfz74_1 := blk_frozen BK315.out 1; have hfz74_2 := blk_frozen BK315.out 2; have hfz74_3 := blk_frozen BK315.out 3; have hfz74_4 := blk_frozen BK315.out 4; have p348 : 0 ≤ (1 : Int) := (by omega); have q348 : 1 < (t306.length : Int) := od; obtain ⟨ad348, e348, hx348_0⟩ := Kd.at_string (Kd.R_reads' HO308.out).2.2 1 p348 q348; cases e348; (try simp only [show (1 : Int).toNat = 1 from rfl, Nat.reduceMul, Nat.reduceEqDiff, Go.Addr.add, ↓reduceIte] at hx348_0); have qi348 : (1 < t306.length) = True := eq_true (by omega); (try rw [show ((1 : Int)).toNat = 1 from rfl] at hx348_0); have hn348_0 : ad348.block ≠ gb347 := Kd.own_blk (Kd.R_ne HO308.out BK347.out (by decide)); have hn348_1 : ad348.block ≠ gb347 := Kd.own_blk (Kd.R_ne HO308.out BK347.out (by decide)); have hn348_2 : ad348.block ≠ gb347 := Kd.own_blk (Kd.R_ne HO308.out BK347.out (by decide)); have hn348_3 : ad348.block ≠ gb347 := Kd.own_blk (Kd.R_ne HO308.out BK347.out (by decide)); have hn348_4 : ad348.block ≠ gb347 := Kd.own_blk (Kd.R_ne HO308.out BK347.out (by decide)); replace hx348_0 := (cell_far (p := ⟨gb347, 0, none⟩) (by first | (rw [add_block]; exact hn348_0) | (show (Addr.add _ _).block ≠ _; rw [add_block]; exact hn348_0) | exact hn348_0) (.bool t339)).trans hx348_0; replace hx348_0 := (cell_far (p := ⟨gb347, 1, none⟩) (by first | (rw [add_block]; exact hn348_1) | (show (Addr.add _ _).block ≠ _; rw [add_block]; exact hn348_1) | exact hn348_1) (.bool t340)).trans hx348_0; replace hx348_0 := (cell_far (p := ⟨gb347, 2, none⟩) (by first | (rw [add_block]; exact hn348_2) | (show (Addr.add _ _).block ≠ _; rw [add_block]; exact hn348_2) | exact hn348_2) (.slice Ao71 t341.length co71)).trans hx348_0; replace hx348_0 := (cell_far (p := ⟨gb347, 3, none⟩) (by first | (rw [add_block]; exact hn348_3) | (show (Addr.add _ _).block ≠ _; rw [add_block]; exact hn348_3) | exact hn348_3) (.string t344)).trans hx348_0; replace hx348_0 := (cell_far (p := ⟨gb347, 4, none⟩) (by first | (rw [add_block]; exact hn348_4) | (show (Addr.add _ _).block ≠ _; rw [add_block]; exact hn348_4) | exact hn348_4) (.string t345)).trans hx348_0; clear hn348_0 hn348_1; clear hn348_2 hn348_3; clear hn348_4; replace p348 := eq_true p348; replace q348 := eq_true q348; have hcz75_0 := cz BK328.out 0 (.bool true); have hcz75_1 := cz BK328.out 1 (.bool t318); have hcz75_2 := cz BK328.out 2 (.slice Ao45 t319.length co45); have hcz75_3 := cz BK328.out 3 (.string t322); have hcz75_4 := cz BK328.out 4 (.string t323); have hfz75_0 := blk_frozen BK328.out 0; have hfz75_1 := blk_frozen BK328.out 1; have hfz75_2 := blk_frozen BK328.out 2; have hfz75_3 := blk_frozen BK328.out 3; have hfz75_4 := blk_frozen BK328.out 4; have hcz76_0 := cz BK338.out 0 (.bool t330); have hcz76_1 := cz BK338.out 1 (.bool true); have hcz76_2 := cz BK338.out 2 (.slice Ao60 t332.length co60); have hcz76_3 := cz BK338.out 3 (.string t335); have hcz76_4 := cz BK338.out 4 (.string t336); have hfz76_0 := blk_frozen BK338.out 0; have hfz76_1 := blk_frozen BK338.out 1; have hfz76_2 := blk_frozen BK338.out 2; have hfz76_3 := blk_frozen BK338.out 3; have hfz76_4 := blk_frozen BK338.out 4))
            go_ret
            exact ⟨rf, bl⟩
           ·replace c17 := Bool.eq_false_iff.mpr c17
            subst c17
            replace H : (some false) = some r := by rw [if_neg (show ¬ (false = true) by decide)] at H; exact H
            exact absurd ((Option.some.inj H).trans HT_r.out) (by decide)
          ·rw [if_neg c16] at H
           have c16b0 : (t337 == 0) = false := beq_eq_false_iff_ne.mpr c16
           have c16b1 : (t337 != 0) = true := bne_iff_ne.mpr c16
           exact absurd ((Option.some.inj H).trans HT_r.out) (by decide)
         ·replace c15 := Bool.eq_false_iff.mpr c15
          subst c15
          replace H : (some false) = some r := by rw [if_neg (show ¬ (false = true) by decide)] at H; exact H
          exact absurd ((Option.some.inj H).trans HT_r.out) (by decide)
        ·rw [if_neg c14] at H
         have c14b0 : (t327 == 0) = false := beq_eq_false_iff_ne.mpr c14
         have c14b1 : (t327 != 0) = true := bne_iff_ne.mpr c14
         exact absurd ((Option.some.inj H).trans HT_r.out) (by decide)
       ·rw [if_neg c13] at H
        have c13b0 : ((rdOf ByteArray.empty t306 1).toList == ([121] : List UInt8)) = false := beq_eq_false_iff_ne.mpr c13
        have c13b1 : ((rdOf ByteArray.empty t306 1).toList != ([121] : List UInt8)) = true := bne_iff_ne.mpr c13
        exact absurd ((Option.some.inj H).trans HT_r.out) (by decide)
      ·rw [if_neg c11] at H
       have c11b0 : ((t306.length : Int) == 2) = false := beq_eq_false_iff_ne.mpr c11
       have c11b1 : ((t306.length : Int) != 2) = true := bne_iff_ne.mpr c11
       exact absurd ((Option.some.inj H).trans HT_r.out) (by decide)
     ·rw [if_neg c10] at H
      have c10b0 : (t314 == 0) = false := beq_eq_false_iff_ne.mpr c10
      have c10b1 : (t314 != 0) = true := bne_iff_ne.mpr c10
      exact absurd ((Option.some.inj H).trans HT_r.out) (by decide)
    ·replace c9 := Bool.eq_false_iff.mpr c9
     subst c9
     replace H : (some false) = some r := by rw [if_neg (show ¬ (false = true) by decide)] at H; exact H
     exact absurd ((Option.some.inj H).trans HT_r.out) (by decide)
   ·rw [if_neg c8] at H
    have c8b0 : (t300 == 5) = false := beq_eq_false_iff_ne.mpr c8
    have c8b1 : (t300 != 5) = true := bne_iff_ne.mpr c8
    exact absurd ((Option.some.inj H).trans HT_r.out) (by decide)
  ·rw [if_neg c7] at H
   have c7b0 : (t296.toList == ([97] : List UInt8) && (t297.toList == ([98, 46, 99] : List UInt8))) = false := by simpa using c7
   (try (have c7b1 : decide (t296.toList = ([97] : List UInt8) && (t297.toList == ([98, 46, 99] : List UInt8))) = false := by simpa using c7))
   (try (have c7b2 : (t296.toList == ([97] : List UInt8) && (t297.toList == ([98, 46, 99] : List UInt8))) = false := by simpa using c7))
   (try (have c7b3 : ¬ (t296.toList = ([97] : List UInt8) && (t297.toList == ([98, 46, 99] : List UInt8))) := by simpa using c7))
   clear c7
   exact absurd ((Option.some.inj H).trans HT_r.out) (by decide)
 ·rw [if_neg c6] at H
  have c6b0 : (t301 == 0) = false := beq_eq_false_iff_ne.mpr c6
  have c6b1 : (t301 != 0) = true := bne_iff_ne.mpr c6
  exact absurd ((Option.some.inj H).trans HT_r.out) (by decide)

/-! ### postriderlaw06_Like: function 14 -/
mutual
def postriderlaw06_Like.j0 : Nat → Bool → Bool → Bool → List ByteArray → ByteArray → ByteArray → Bool → Bool → List ByteArray → ByteArray → ByteArray → Option (Bool)
 | 0, _, _, _, _, _, _, _, _, _, _, _ => none
 | k + 1, x33, x350000, x350001, x350002, x350003, x350004, x351000, x351001, x351002, x351003, x351004 => if x33 = true then (some false) else (postriderlaw06_Like.l0 k 0 x350000 x350001 x350002 x350003 x350004 x351000 x351001 x351002 x351003 x351004)
def postriderlaw06_Like.l0 : Nat → Int → Bool → Bool → List ByteArray → ByteArray → ByteArray → Bool → Bool → List ByteArray → ByteArray → ByteArray → Option (Bool)
 | 0, _, _, _, _, _, _, _, _, _, _, _ => none
 | k + 1, x5, x350000, x350001, x350002, x350003, x350004, x351000, x351001, x351002, x351003, x351004 => if x5 < (x350002.length : Int) then (if 0 ≤ x5 then (if x5 < (x351002.length : Int) then (if (rdOf ByteArray.empty x350002 x5).toList = (rdOf ByteArray.empty x351002 x5).toList then (postriderlaw06_Like.l0 k (wrap64 (x5 + 1)) x350000 x350001 x350002 x350003 x350004 x351000 x351001 x351002 x351003 x351004) else (some false)) else (none)) else (none)) else (some true)
end
def postriderlaw06_Like.f (k : Nat) (a0_0 : Bool) (a0_1 : Bool) (l0_2 : List ByteArray) (a0_3 : ByteArray) (a0_4 : ByteArray) (a1_0 : Bool) (a1_1 : Bool) (l1_2 : List ByteArray) (a1_3 : ByteArray) (a1_4 : ByteArray) : Option (Bool) := if (a0_0 != a1_0) = true then (postriderlaw06_Like.j0 k true a0_0 a0_1 l0_2 a0_3 a0_4 a1_0 a1_1 l1_2 a1_3 a1_4) else (if (a0_1 != a1_1) = true then (postriderlaw06_Like.j0 k true a0_0 a0_1 l0_2 a0_3 a0_4 a1_0 a1_1 l1_2 a1_3 a1_4) else (if (!(a0_3.toList == a1_3.toList) || (!(a0_4.toList == a1_4.toList))) = true then (postriderlaw06_Like.j0 k true a0_0 a0_1 l0_2 a0_3 a0_4 a1_0 a1_1 l1_2 a1_3 a1_4) else (postriderlaw06_Like.j0 k ((l0_2.length : Int) != (l1_2.length : Int)) a0_0 a0_1 l0_2 a0_3 a0_4 a1_0 a1_1 l1_2 a1_3 a1_4)))
theorem postriderlaw06_Like.mono_l : ∀ k, (∀ y0 y1 y2 y3 y4 y5 y6 y7 y8 y9 y10, LeO (postriderlaw06_Like.j0 k y0 y1 y2 y3 y4 y5 y6 y7 y8 y9 y10) (postriderlaw06_Like.j0 (k + 1) y0 y1 y2 y3 y4 y5 y6 y7 y8 y9 y10)) ∧ (∀ y0 y1 y2 y3 y4 y5 y6 y7 y8 y9 y10, LeO (postriderlaw06_Like.l0 k y0 y1 y2 y3 y4 y5 y6 y7 y8 y9 y10) (postriderlaw06_Like.l0 (k + 1) y0 y1 y2 y3 y4 y5 y6 y7 y8 y9 y10))
 | 0 => ⟨fun _ _ _ _ _ _ _ _ _ _ _ r h => by simp [postriderlaw06_Like.j0] at h, fun _ _ _ _ _ _ _ _ _ _ _ r h => by simp [postriderlaw06_Like.l0] at h⟩
 | k + 1 => by
  obtain ⟨ih0, ih1⟩ := postriderlaw06_Like.mono_l k
  refine ⟨?_, ?_⟩
  ·intro y0 y1 y2 y3 y4 y5 y6 y7 y8 y9 y10
   unfold postriderlaw06_Like.j0
   repeat' first
   | (with_reducible first | exact ih0 _ _ _ _ _ _ _ _ _ _ _ | exact ih1 _ _ _ _ _ _ _ _ _ _ _ | exact LeO.refl _ | exact LeO.none _ | refine LeO.ite ?_ ?_ | refine LeO.bind ?_ (fun _ => ?_))
  ·intro y0 y1 y2 y3 y4 y5 y6 y7 y8 y9 y10
   unfold postriderlaw06_Like.l0
   repeat' first
   | (with_reducible first | exact ih0 _ _ _ _ _ _ _ _ _ _ _ | exact ih1 _ _ _ _ _ _ _ _ _ _ _ | exact LeO.refl _ | exact LeO.none _ | refine LeO.ite ?_ ?_ | refine LeO.bind ?_ (fun _ => ?_))
theorem postriderlaw06_Like.mono : ∀ a0 a1 a2 a3 a4 a5 a6 a7 a8 a9 k, LeO (postriderlaw06_Like.f k a0 a1 a2 a3 a4 a5 a6 a7 a8 a9) (postriderlaw06_Like.f (k + 1) a0 a1 a2 a3 a4 a5 a6 a7 a8 a9) := by
 intro a0 a1 a2 a3 a4 a5 a6 a7 a8 a9 k
 obtain ⟨ih0, ih1⟩ := postriderlaw06_Like.mono_l k
 unfold postriderlaw06_Like.f
 repeat' first
   | (with_reducible first | exact ih0 _ _ _ _ _ _ _ _ _ _ _ | exact ih1 _ _ _ _ _ _ _ _ _ _ _ | exact LeO.refl _ | exact LeO.none _ | refine LeO.ite ?_ ?_ | refine LeO.bind ?_ (fun _ => ?_))
set_option maxHeartbeats 8000000 in
set_option maxRecDepth 100000 in
theorem postriderlaw06_Like.calls (k : Nat) (a0_0 : Bool) (a0_1 : Bool) (A0_2 : Option Addr) (c0_2 : Nat) (l0_2 : List ByteArray) (a0_3 : ByteArray) (a0_4 : ByteArray) (a1_0 : Bool) (a1_1 : Bool) (A1_2 : Option Addr) (c1_2 : Nat) (l1_2 : List ByteArray) (a1_3 : ByteArray) (a1_4 : ByteArray) (r : Bool) (w : World) (hr0_2 : Kd.C Kd.string w A0_2 l0_2.length l0_2) (hc0_2 : l0_2.length ≤ c0_2) (hr1_2 : Kd.C Kd.string w A1_2 l1_2.length l1_2) (hc1_2 : l1_2.length ≤ c1_2) (h : postriderlaw06_Like.f k a0_0 a0_1 l0_2 a0_3 a0_4 a1_0 a1_1 l1_2 a1_3 a1_4 = some r) :
  Calls Tryz.prog 14 #[.agg #[.bool a0_0, .bool a0_1, .slice A0_2 l0_2.length c0_2, .string a0_3, .string a0_4], .agg #[.bool a1_0, .bool a1_1, .slice A1_2 l1_2.length c1_2, .string a1_3, .string a1_4]] w fun e w' => e = .returned (.bool r) ∧ Below w.heap.size w w' := by
 have hu31 := Tryz.underlying31
 have hu29 := Tryz.underlying29
 have HR0_2 := Aside0.mk hr0_2
 have HC0_2 := Aside0.mk hc0_2
 clear hr0_2 hc0_2
 have HR1_2 := Aside0.mk hr1_2
 have HC1_2 := Aside0.mk hc1_2
 clear hr1_2 hc1_2
 have HB := Aside0.mk (Below.refl w.heap.size w)
 have H : (if (a0_0 != a1_0) = true then (postriderlaw06_Like.j0 k true a0_0 a0_1 l0_2 a0_3 a0_4 a1_0 a1_1 l1_2 a1_3 a1_4) else (if (a0_1 != a1_1) = true then (postriderlaw06_Like.j0 k true a0_0 a0_1 l0_2 a0_3 a0_4 a1_0 a1_1 l1_2 a1_3 a1_4) else (if (!(a0_3.toList == a1_3.toList) || (!(a0_4.toList == a1_4.toList))) = true then (postriderlaw06_Like.j0 k true a0_0 a0_1 l0_2 a0_3 a0_4 a1_0 a1_1 l1_2 a1_3 a1_4) else (postriderlaw06_Like.j0 k ((l0_2.length : Int) != (l1_2.length : Int)) a0_0 a0_1 l0_2 a0_3 a0_4 a1_0 a1_1 l1_2 a1_3 a1_4)))) = some r := h
 clear h
 have HC3 := Aside0.mk H
 clear H
 go_enter Tryz.func14, Tryz.ntmps14
 go_upto_region 1 with (first | ((with_reducible refine gate_dst (N := 2) rfl ?_); (try (refine gate_guard (by rfl) ?_; dsimp only)); refine box_event ?hg (N := 2) ?hd (cs := #[.bool a0_0, .bool a0_1, .slice A0_2 l0_2.length c0_2, .string a0_3, .string a0_4]) (t := 31) ?hr ?_; (case hd => rfl); (case hg => rfl); (case hr => first | (go_simp; done) | (go_simp; rfl)); intro gb349 hg w4 hbox hb; have BK349 := Aside0.mk (hbox); have GW349 := Aside0.mk (gz hg : w.heap.size ≤ gb349); have GE349 := Aside0.mk (gz hg : w.heap.size ≤ gb349); replace HB := Aside0.mk (below_step bl hb); clear hb hbox hg) | ((with_reducible refine gate_dst (N := 3) rfl ?_); (try (refine gate_guard (by rfl) ?_; dsimp only)); refine box_event ?hg (N := 3) ?hd (cs := #[.bool a1_0, .bool a1_1, .slice A1_2 l1_2.length c1_2, .string a1_3, .string a1_4]) (t := 31) ?hr ?_; (case hd => rfl); (case hg => rfl); (case hr => first | (go_simp; done) | (go_simp; rfl)); intro gb350 hg w5 hbox hb; have BK350 := Aside0.mk (hbox); have GW350 := Aside0.mk (gz hg : w.heap.size ≤ gb350); have GE350 := Aside0.mk (gz hg : w.heap.size ≤ gb350); replace HB := Aside0.mk (below_step bl hb); have NB349_350 := Aside0.mk (nl hg BK349.out : gb349 ≠ gb350); have NB350_349 := Aside0.mk (ng hg BK349.out : gb350 ≠ gb349); replace BK349 := Aside0.mk (kb BK349.out hb); clear hb hbox hg))
 repeat (go_quiet (first | ((with_reducible refine gate_dst (N := 2) rfl ?_); (try (refine gate_guard (by rfl) ?_; dsimp only)); refine box_event ?hg (N := 2) ?hd (cs := #[.bool a0_0, .bool a0_1, .slice A0_2 l0_2.length c0_2, .string a0_3, .string a0_4]) (t := 31) ?hr ?_; (case hd => rfl); (case hg => rfl); (case hr => first | (go_simp; done) | (go_simp; rfl)); intro gb349 hg w4 hbox hb; have BK349 := Aside0.mk (hbox); have GW349 := Aside0.mk (gz hg : w.heap.size ≤ gb349); have GE349 := Aside0.mk (gz hg : w.heap.size ≤ gb349); replace HB := Aside0.mk (below_step bl hb); clear hb hbox hg) | ((with_reducible refine gate_dst (N := 3) rfl ?_); (try (refine gate_guard (by rfl) ?_; dsimp only)); refine box_event ?hg (N := 3) ?hd (cs := #[.bool a1_0, .bool a1_1, .slice A1_2 l1_2.length c1_2, .string a1_3, .string a1_4]) (t := 31) ?hr ?_; (case hd => rfl); (case hg => rfl); (case hr => first | (go_simp; done) | (go_simp; rfl)); intro gb350 hg w5 hbox hb; have BK350 := Aside0.mk (hbox); have GW350 := Aside0.mk (gz hg : w.heap.size ≤ gb350); have GE350 := Aside0.mk (gz hg : w.heap.size ≤ gb350); replace HB := Aside0.mk (below_step bl hb); have NB349_350 := Aside0.mk (nl hg BK349.out : gb349 ≠ gb350); have NB350_349 := Aside0.mk (ng hg BK349.out : gb350 ≠ gb349); replace BK349 := Aside0.mk (kb BK349.out hb); clear hb hbox hg)); go_upto_region 1 with (first | ((with_reducible refine gate_dst (N := 2) rfl ?_); (try (refine gate_guard (by rfl) ?_; dsimp only)); refine box_event ?hg (N := 2) ?hd (cs := #[.bool a0_0, .bool a0_1, .slice A0_2 l0_2.length c0_2, .string a0_3, .string a0_4]) (t := 31) ?hr ?_; (case hd => rfl); (case hg => rfl); (case hr => first | (go_simp; done) | (go_simp; rfl)); intro gb349 hg w4 hbox hb; have BK349 := Aside0.mk (hbox); have GW349 := Aside0.mk (gz hg : w.heap.size ≤ gb349); have GE349 := Aside0.mk (gz hg : w.heap.size ≤ gb349); replace HB := Aside0.mk (below_step bl hb); clear hb hbox hg) | ((with_reducible refine gate_dst (N := 3) rfl ?_); (try (refine gate_guard (by rfl) ?_; dsimp only)); refine box_event ?hg (N := 3) ?hd (cs := #[.bool a1_0, .bool a1_1, .slice A1_2 l1_2.length c1_2, .string a1_3, .string a1_4]) (t := 31) ?hr ?_; (case hd => rfl); (case hg => rfl); (case hr => first | (go_simp; done) | (go_simp; rfl)); intro gb350 hg w5 hbox hb; have BK350 := Aside0.mk (hbox); have GW350 := Aside0.mk (gz hg : w.heap.size ≤ gb350); have GE350 := Aside0.mk (gz hg : w.heap.size ≤ gb350); replace HB := Aside0.mk (below_step bl hb); have NB349_350 := Aside0.mk (nl hg BK349.out : gb349 ≠ gb350); have NB350_349 := Aside0.mk (ng hg BK349.out : gb350 ≠ gb349); replace BK349 := Aside0.mk (kb BK349.out hb); clear hb hbox hg)))
 (try simp only [Act.put, sA, sB, sC])
 go_cut [33] (fun v33 wc => ∃ (kq : Nat) (x33_2 : Bool), v33 = .bool x33_2 ∧ Aside0 (postriderlaw06_Like.j0 kq x33_2 a0_0 a0_1 l0_2 a0_3 a0_4 a1_0 a1_1 l1_2 a1_3 a1_4 = some r) ∧ Aside0 (kq ≤ k) ∧ Aside0 (wc.heap[gb349]? = some (.cells #[.bool a0_0, .bool a0_1, (.slice A0_2 l0_2.length c0_2), .string a0_3, .string a0_4] 31 (0, 0))) ∧ Aside0 (wc.heap[gb350]? = some (.cells #[.bool a1_0, .bool a1_1, (.slice A1_2 l1_2.length c1_2), .string a1_3, .string a1_4] 31 (0, 0))) ∧ Aside0 (Below w.heap.size w wc))
 case first =>
  have H := HC3.out
  clear HC3
  by_cases c6 : (a0_0 != a1_0) = true
  ·rw [if_pos c6] at H
   have c6b0 : (a0_0 != a1_0) = true := c6
   (try (have c6b1 : decide (a0_0 = a1_0) = false := by simpa using c6))
   (try (have c6b2 : (a0_0 == a1_0) = false := by simpa using c6))
   (try (have c6b3 : ¬ (a0_0 = a1_0) := by simpa using c6))
   clear c6
   (first | rw [c6b0] | (simp only [i64_w, i32_w]; rw [c6b0]) | skip)
   have H' := Aside0.mk H
   clear H
   have hnb7 := NB349_350.out
   have hnc7 := NB350_349.out
   have hcz8_0 := cz BK349.out 0 (.bool a0_0)
   have hcz8_1 := cz BK349.out 1 (.bool a0_1)
   have hcz8_2 := cz BK349.out 2 (.slice A0_2 l0_2.length c0_2)
   have hcz8_3 := cz BK349.out 3 (.string a0_3)
   have hcz8_4 := cz BK349.out 4 (.string a0_4)
   have hfz8_0 := blk_frozen BK349.out 0
   have hfz8_1 := blk_frozen BK349.out 1
   have hfz8_2 := blk_frozen BK349.out 2
   have hfz8_3 := blk_frozen BK349.out 3
   have hfz8_4 := blk_frozen BK349.out 4
   have hcz9_0 := cz BK350.out 0 (.bool a1_0)
   have hcz9_1 := cz BK350.out 1 (.bool a1_1)
   have hcz9_2 := cz BK350.out 2 (.slice A1_2 l1_2.length c1_2)
   have hcz9_3 := cz BK350.out 3 (.string a1_3)
   have hcz9_4 := cz BK350.out 4 (.string a1_4)
   have hfz9_0 := blk_frozen BK350.out 0
   have hfz9_1 := blk_frozen BK350.out 1
   have hfz9_2 := blk_frozen BK350.out 2
   have hfz9_3 := blk_frozen BK350.out 3
   have hfz9_4 := blk_frozen BK350.out 4
   go_wp2
   repeat (go_quiet (fail); try go_wp2)
   go_meet
   case rel => exact ⟨_, (true), rs, H', ⟨by first | omega | exact Nat.le_refl _⟩, ⟨bk BK349.out⟩, ⟨bk BK350.out⟩, ⟨bl⟩⟩
  ·rw [if_neg c6] at H
   have c6b0 : (a0_0 != a1_0) = false := by simpa using c6
   (try (have c6b1 : decide (a0_0 = a1_0) = true := by simpa using c6))
   (try (have c6b2 : (a0_0 == a1_0) = true := by simpa using c6))
   clear c6
   (first | rw [c6b0] | (simp only [i64_w, i32_w]; rw [c6b0]) | skip)
   by_cases c10 : (a0_1 != a1_1) = true
   ·rw [if_pos c10] at H
    have c10b0 : (a0_1 != a1_1) = true := c10
    (try (have c10b1 : decide (a0_1 = a1_1) = false := by simpa using c10))
    (try (have c10b2 : (a0_1 == a1_1) = false := by simpa using c10))
    (try (have c10b3 : ¬ (a0_1 = a1_1) := by simpa using c10))
    clear c10
    have H' := Aside0.mk H
    clear H
    have hnb11 := NB349_350.out
    have hnc11 := NB350_349.out
    have hcz12_0 := cz BK349.out 0 (.bool a0_0)
    have hcz12_1 := cz BK349.out 1 (.bool a0_1)
    have hcz12_2 := cz BK349.out 2 (.slice A0_2 l0_2.length c0_2)
    have hcz12_3 := cz BK349.out 3 (.string a0_3)
    have hcz12_4 := cz BK349.out 4 (.string a0_4)
    have hfz12_0 := blk_frozen BK349.out 0
    have hfz12_1 := blk_frozen BK349.out 1
    have hfz12_2 := blk_frozen BK349.out 2
    have hfz12_3 := blk_frozen BK349.out 3
    have hfz12_4 := blk_frozen BK349.out 4
    have hcz13_0 := cz BK350.out 0 (.bool a1_0)
    have hcz13_1 := cz BK350.out 1 (.bool a1_1)
    have hcz13_2 := cz BK350.out 2 (.slice A1_2 l1_2.length c1_2)
    have hcz13_3 := cz BK350.out 3 (.string a1_3)
    have hcz13_4 := cz BK350.out 4 (.string a1_4)
    have hfz13_0 := blk_frozen BK350.out 0
    have hfz13_1 := blk_frozen BK350.out 1
    have hfz13_2 := blk_frozen BK350.out 2
    have hfz13_3 := blk_frozen BK350.out 3
    have hfz13_4 := blk_frozen BK350.out 4
    go_wp2
    repeat (go_quiet (fail); try go_wp2)
    go_meet
    case rel => exact ⟨_, (true), rs, H', ⟨by first | omega | exact Nat.le_refl _⟩, ⟨bk BK349.out⟩, ⟨bk BK350.out⟩, ⟨bl⟩⟩
   ·rw [if_neg c10] at H
    have c10b0 : (a0_1 != a1_1) = false := by simpa using c10
    (try (have c10b1 : decide (a0_1 = a1_1) = true := by simpa using c10))
    (try (have c10b2 : (a0_1 == a1_1) = true := by simpa using c10))
    clear c10
    by_cases c14 : (!(a0_3.toList == a1_3.toList) || (!(a0_4.toList == a1_4.toList))) = true
    ·rw [if_pos c14] at H
     have c14b0 : (!(a0_3.toList == a1_3.toList) || (!(a0_4.toList == a1_4.toList))) = true := c14
     clear c14
     have H' := Aside0.mk H
     clear H
     have hnb15 := NB349_350.out
     have hnc15 := NB350_349.out
     have hcz16_0 := cz BK349.out 0 (.bool a0_0)
     have hcz16_1 := cz BK349.out 1 (.bool a0_1)
     have hcz16_2 := cz BK349.out 2 (.slice A0_2 l0_2.length c0_2)
     have hcz16_3 := cz BK349.out 3 (.string a0_3)
     have hcz16_4 := cz BK349.out 4 (.string a0_4)
     have hfz16_0 := blk_frozen BK349.out 0
     have hfz16_1 := blk_frozen BK349.out 1
     have hfz16_2 := blk_frozen BK349.out 2
     have hfz16_3 := blk_frozen BK349.out 3
     have hfz16_4 := blk_frozen BK349.out 4
     have hcz17_0 := cz BK350.out 0 (.bool a1_0)
     have hcz17_1 := cz BK350.out 1 (.bool a1_1)
     have hcz17_2 := cz BK350.out 2 (.slice A1_2 l1_2.length c1_2)
     have hcz17_3 := cz BK350.out 3 (.string a1_3)
     have hcz17_4 := cz BK350.out 4 (.string a1_4)
     have hfz17_0 := blk_frozen BK350.out 0
     have hfz17_1 := blk_frozen BK350.out 1
     have hfz17_2 := blk_frozen BK350.out 2
     have hfz17_3 := blk_frozen BK350.out 3
     have hfz17_4 := blk_frozen BK350.out 4
     go_wp2
     repeat (go_quiet (fail); try go_wp2)
     go_meet
     case rel => exact ⟨_, (true), rs, H', ⟨by first | omega | exact Nat.le_refl _⟩, ⟨bk BK349.out⟩, ⟨bk BK350.out⟩, ⟨bl⟩⟩
    ·rw [if_neg c14] at H
     have c14b0 : (!(a0_3.toList == a1_3.toList) || (!(a0_4.toList == a1_4.toList))) = false := by simpa using c14
     clear c14
     have H' := Aside0.mk H
     clear H
     have hnb18 := NB349_350.out
     have hnc18 := NB350_349.out
     have hcz19_0 := cz BK349.out 0 (.bool a0_0)
     have hcz19_1 := cz BK349.out 1 (.bool a0_1)
     have hcz19_2 := cz BK349.out 2 (.slice A0_2 l0_2.length c0_2)
     have hcz19_3 := cz BK349.out 3 (.string a0_3)
     have hcz19_4 := cz BK349.out 4 (.string a0_4)
     have hfz19_0 := blk_frozen BK349.out 0
     have hfz19_1 := blk_frozen BK349.out 1
     have hfz19_2 := blk_frozen BK349.out 2
     have hfz19_3 := blk_frozen BK349.out 3
     have hfz19_4 := blk_frozen BK349.out 4
     have hcz20_0 := cz BK350.out 0 (.bool a1_0)
     have hcz20_1 := cz BK350.out 1 (.bool a1_1)
     have hcz20_2 := cz BK350.out 2 (.slice A1_2 l1_2.length c1_2)
     have hcz20_3 := cz BK350.out 3 (.string a1_3)
     have hcz20_4 := cz BK350.out 4 (.string a1_4)
     have hfz20_0 := blk_frozen BK350.out 0
     have hfz20_1 := blk_frozen BK350.out 1
     have hfz20_2 := blk_frozen BK350.out 2
     have hfz20_3 := blk_frozen BK350.out 3
     have hfz20_4 := blk_frozen BK350.out 4
     go_wp2
     repeat (go_quiet (fail); try go_wp2)
     go_meet
     case rel => exact ⟨_, (((l0_2.length : Int) != (l1_2.length : Int))), rs, H', ⟨by first | omega | exact Nat.le_refl _⟩, ⟨bk BK349.out⟩, ⟨bk BK350.out⟩, ⟨bl⟩⟩
 case rest =>
  clear HC3
  try clear c1
  try clear p2
  try clear c6
  try clear c6b0
  try clear c6b1
  try clear c6b2
  try clear c7
  try clear c10
  try clear c10b0
  try clear c10b1
  try clear c10b2
  try clear c11
  try clear c14
  try clear c14b0
  try clear c15
  try clear c18
  try clear hcz12_0
  try clear hcz12_1
  try clear hcz12_2
  try clear hcz12_3
  try clear hcz12_4
  try clear hcz13_0
  try clear hcz13_1
  try clear hcz13_2
  try clear hcz13_3
  try clear hcz13_4
  try clear hcz16_0
  try clear hcz16_1
  try clear hcz16_2
  try clear hcz16_3
  try clear hcz16_4
  try clear hcz17_0
  try clear hcz17_1
  try clear hcz17_2
  try clear hcz17_3
  try clear hcz17_4
  try clear hcz19_0
  try clear hcz19_1
  try clear hcz19_2
  try clear hcz19_3
  try clear hcz19_4
  try clear hcz20_0
  try clear hcz20_1
  try clear hcz20_2
  try clear hcz20_3
  try clear hcz20_4
  try clear hcz8_0
  try clear hcz8_1
  try clear hcz8_2
  try clear hcz8_3
  try clear hcz8_4
  try clear hcz9_0
  try clear hcz9_1
  try clear hcz9_2
  try clear hcz9_3
  try clear hcz9_4
  try clear hfz12_0
  try clear hfz12_1
  try clear hfz12_2
  try clear hfz12_3
  try clear hfz12_4
  try clear hfz13_0
  try clear hfz13_1
  try clear hfz13_2
  try clear hfz13_3
  try clear hfz13_4
  try clear hfz16_0
  try clear hfz16_1
  try clear hfz16_2
  try clear hfz16_3
  try clear hfz16_4
  try clear hfz17_0
  try clear hfz17_1
  try clear hfz17_2
  try clear hfz17_3
  try clear hfz17_4
  try clear hfz19_0
  try clear hfz19_1
  try clear hfz19_2
  try clear hfz19_3
  try clear hfz19_4
  try clear hfz20_0
  try clear hfz20_1
  try clear hfz20_2
  try clear hfz20_3
  try clear hfz20_4
  try clear hfz8_0
  try clear hfz8_1
  try clear hfz8_2
  try clear hfz8_3
  try clear hfz8_4
  try clear hfz9_0
  try clear hfz9_1
  try clear hfz9_2
  try clear hfz9_3
  try clear hfz9_4
  obtain ⟨kq, x33_2, rfl, HA, HJ2, BK349, BK350, HB⟩ := hcut
  cases kq with
  | zero => exact absurd HA.out (by simp [postriderlaw06_Like.j0])
  | succ kj2 =>
   have H := HA.out
   clear HA
   simp only [postriderlaw06_Like.j0] at H
   by_cases c21 : x33_2 = true
   ·subst c21
    replace H : (some false) = some r := by rw [if_pos rfl] at H; exact H
    obtain rfl := Option.some.inj H
    go_wp2
    repeat (go_quiet (fail); try go_wp2)
    go_ret
    exact ⟨rf, bl⟩
   ·replace c21 := Bool.eq_false_iff.mpr c21
    subst c21
    replace H : (postriderlaw06_Like.l0 kj2 0 a0_0 a0_1 l0_2 a0_3 a0_4 a1_0 a1_1 l1_2 a1_3 a1_4) = some r := by rw [if_neg (show ¬ (false = true) by decide)] at H; exact H
    have H' := Aside0.mk H
    clear H
    go_wp2
    repeat (go_quiet (fail); try go_wp2)
    go_loopg [5] kj2 (fun kq v5 w' => ∃ (x5_2 : Int), v5 = .int .i64 x5_2 ∧ Aside0 (postriderlaw06_Like.l0 kq x5_2 a0_0 a0_1 l0_2 a0_3 a0_4 a1_0 a1_1 l1_2 a1_3 a1_4 = some r) ∧ Aside0 (kq ≤ kj2) ∧ Aside0 (w'.heap[gb349]? = some (.cells #[.bool a0_0, .bool a0_1, (.slice A0_2 l0_2.length c0_2), .string a0_3, .string a0_4] 31 (0, 0))) ∧ Aside0 (w'.heap[gb350]? = some (.cells #[.bool a1_0, .bool a1_1, (.slice A1_2 l1_2.length c1_2), .string a1_3, .string a1_4] 31 (0, 0))) ∧ Aside0 (Below w.heap.size w w'))
    case atStart => exact ⟨(0), rs, H', ⟨Nat.le_refl _⟩, ⟨bk BK349.out⟩, ⟨bk BK350.out⟩, ⟨bl⟩⟩
    case round =>
     clear H'
     try clear c1
     try clear c2
     try clear p2
     try clear c6
     try clear c6b0
     try clear c6b1
     try clear c6b2
     try clear c7
     try clear c10
     try clear c10b0
     try clear c10b1
     try clear c10b2
     try clear c11
     try clear c14
     try clear c14b0
     try clear c15
     try clear c18
     try clear c21
     try clear hcz12_0
     try clear hcz12_1
     try clear hcz12_2
     try clear hcz12_3
     try clear hcz12_4
     try clear hcz13_0
     try clear hcz13_1
     try clear hcz13_2
     try clear hcz13_3
     try clear hcz13_4
     try clear hcz16_0
     try clear hcz16_1
     try clear hcz16_2
     try clear hcz16_3
     try clear hcz16_4
     try clear hcz17_0
     try clear hcz17_1
     try clear hcz17_2
     try clear hcz17_3
     try clear hcz17_4
     try clear hcz19_0
     try clear hcz19_1
     try clear hcz19_2
     try clear hcz19_3
     try clear hcz19_4
     try clear hcz20_0
     try clear hcz20_1
     try clear hcz20_2
     try clear hcz20_3
     try clear hcz20_4
     try clear hcz8_0
     try clear hcz8_1
     try clear hcz8_2
     try clear hcz8_3
     try clear hcz8_4
     try clear hcz9_0
     try clear hcz9_1
     try clear hcz9_2
     try clear hcz9_3
     try clear hcz9_4
     try clear hfz12_0
     try clear hfz12_1
     try clear hfz12_2
     try clear hfz12_3
     try clear hfz12_4
     try clear hfz13_0
     try clear hfz13_1
     try clear hfz13_2
     try clear hfz13_3
     try clear hfz13_4
     try clear hfz16_0
     try clear hfz16_1
     try clear hfz16_2
     try clear hfz16_3
     try clear hfz16_4
     try clear hfz17_0
     try clear hfz17_1
     try clear hfz17_2
     try clear hfz17_3
     try clear hfz17_4
     try clear hfz19_0
     try clear hfz19_1
     try clear hfz19_2
     try clear hfz19_3
     try clear hfz19_4
     try clear hfz20_0
     try clear hfz20_1
     try clear hfz20_2
     try clear hfz20_3
     try clear hfz20_4
     try clear hfz8_0
     try clear hfz8_1
     try clear hfz8_2
     try clear hfz8_3
     try clear hfz8_4
     try clear hfz9_0
     try clear hfz9_1
     try clear hfz9_2
     try clear hfz9_3
     try clear hfz9_4
     try clear p2
     obtain ⟨x5_2, rfl, HA, HK2, BK349, BK350, HB⟩ := hrel
     cases gk with
     | zero => exact absurd HA.out (by simp [postriderlaw06_Like.l0])
     | succ k2 =>
      have H := HA.out
      clear HA
      simp only [postriderlaw06_Like.l0] at H
      by_cases c22 : x5_2 < (l0_2.length : Int)
      ·rw [if_pos c22] at H
       have c22b0 : decide (x5_2 < (l0_2.length : Int)) = true := decide_eq_true c22
       clear c22
       by_cases c23 : 0 ≤ x5_2
       rotate_left
       ·rw [if_neg c23] at H
        exact ab H
       rw [if_pos c23] at H
       have c23b0 : decide (0 ≤ x5_2) = true := decide_eq_true c23
       clear c23
       by_cases c24 : x5_2 < (l1_2.length : Int)
       rotate_left
       ·rw [if_neg c24] at H
        exact ab H
       rw [if_pos c24] at H
       have c24b0 : decide (x5_2 < (l1_2.length : Int)) = true := decide_eq_true c24
       clear c24
       by_cases c25 : (rdOf ByteArray.empty l0_2 x5_2).toList = (rdOf ByteArray.empty l1_2 x5_2).toList
       ·rw [if_pos c25] at H
        have c25b0 : ((rdOf ByteArray.empty l0_2 x5_2).toList == (rdOf ByteArray.empty l1_2 x5_2).toList) = true := beq_iff_eq.mpr c25
        have c25b1 : ((rdOf ByteArray.empty l0_2 x5_2).toList != (rdOf ByteArray.empty l1_2 x5_2).toList) = false := bne_eq_false_iff_eq.mpr c25
        clear c25
        have H' := Aside0.mk H
        clear H
        have hnb26 := NB349_350.out
        have hnc26 := NB350_349.out
        have hcz27_0 := cz BK349.out 0 (.bool a0_0)
        have hcz27_1 := cz BK349.out 1 (.bool a0_1)
        have hcz27_2 := cz BK349.out 2 (.slice A0_2 l0_2.length c0_2)
        have hcz27_3 := cz BK349.out 3 (.string a0_3)
        have hcz27_4 := cz BK349.out 4 (.string a0_4)
        have hfz27_0 := blk_frozen BK349.out 0
        have hfz27_1 := blk_frozen BK349.out 1
        have hfz27_2 := blk_frozen BK349.out 2
        have hfz27_3 := blk_frozen BK349.out 3
        have hfz27_4 := blk_frozen BK349.out 4
        have p351 : 0 ≤ (x5_2 : Int) := od
        have q351 : x5_2 < (l0_2.length : Int) := od
        obtain ⟨ad351, e351, hx351_0⟩ := Kd.at_string HR0_2.out x5_2 p351 q351
        cases e351
        replace hx351_0 := (HB.out.cell (World.block_lt_of_cell? w _ hx351_0)).trans hx351_0
        replace p351 := eq_true p351
        replace q351 := eq_true q351
        have hcz28_0 := cz BK350.out 0 (.bool a1_0)
        have hcz28_1 := cz BK350.out 1 (.bool a1_1)
        have hcz28_2 := cz BK350.out 2 (.slice A1_2 l1_2.length c1_2)
        have hcz28_3 := cz BK350.out 3 (.string a1_3)
        have hcz28_4 := cz BK350.out 4 (.string a1_4)
        have hfz28_0 := blk_frozen BK350.out 0
        have hfz28_1 := blk_frozen BK350.out 1
        have hfz28_2 := blk_frozen BK350.out 2
        have hfz28_3 := blk_frozen BK350.out 3
        have hfz28_4 := blk_frozen BK350.out 4
        have p352 : 0 ≤ (x5_2 : Int) := od
        have q352 : x5_2 < (l1_2.length : Int) := od
        obtain ⟨ad352, e352, hx352_0⟩ := Kd.at_string HR1_2.out x5_2 p352 q352
        cases e352
        replace hx352_0 := (HB.out.cell (World.block_lt_of_cell? w _ hx352_0)).trans hx352_0
        replace p352 := eq_true p352
        replace q352 := eq_true q352
        go_wp2
        repeat (go_quiet (fail); try go_wp2)
        go_roundg k2
        case measure => have := HJ2.out; have := HK2.out; omega
        case rel => exact ⟨(wrap64 (x5_2 + 1)), rs, H', ⟨by have := HJ2.out; have := HK2.out; omega⟩, ⟨bk BK349.out⟩, ⟨bk BK350.out⟩, ⟨bl⟩⟩
       ·rw [if_neg c25] at H
        have c25b0 : ((rdOf ByteArray.empty l0_2 x5_2).toList == (rdOf ByteArray.empty l1_2 x5_2).toList) = false := beq_eq_false_iff_ne.mpr c25
        have c25b1 : ((rdOf ByteArray.empty l0_2 x5_2).toList != (rdOf ByteArray.empty l1_2 x5_2).toList) = true := bne_iff_ne.mpr c25
        obtain rfl := Option.some.inj H
        have hnb29 := NB349_350.out
        have hnc29 := NB350_349.out
        have hcz30_0 := cz BK349.out 0 (.bool a0_0)
        have hcz30_1 := cz BK349.out 1 (.bool a0_1)
        have hcz30_2 := cz BK349.out 2 (.slice A0_2 l0_2.length c0_2)
        have hcz30_3 := cz BK349.out 3 (.string a0_3)
        have hcz30_4 := cz BK349.out 4 (.string a0_4)
        have hfz30_0 := blk_frozen BK349.out 0
        have hfz30_1 := blk_frozen BK349.out 1
        have hfz30_2 := blk_frozen BK349.out 2
        have hfz30_3 := blk_frozen BK349.out 3
        have hfz30_4 := blk_frozen BK349.out 4
        have p351 : 0 ≤ (x5_2 : Int) := od
        have q351 : x5_2 < (l0_2.length : Int) := od
        obtain ⟨ad351, e351, hx351_0⟩ := Kd.at_string HR0_2.out x5_2 p351 q351
        cases e351
        replace hx351_0 := (HB.out.cell (World.block_lt_of_cell? w _ hx351_0)).trans hx351_0
        replace p351 := eq_true p351
        replace q351 := eq_true q351
        have hcz31_0 := cz BK350.out 0 (.bool a1_0)
        have hcz31_1 := cz BK350.out 1 (.bool a1_1)
        have hcz31_2 := cz BK350.out 2 (.slice A1_2 l1_2.length c1_2)
        have hcz31_3 := cz BK350.out 3 (.string a1_3)
        have hcz31_4 := cz BK350.out 4 (.string a1_4)
        have hfz31_0 := blk_frozen BK350.out 0
        have hfz31_1 := blk_frozen BK350.out 1
        have hfz31_2 := blk_frozen BK350.out 2
        have hfz31_3 := blk_frozen BK350.out 3
        have hfz31_4 := blk_frozen BK350.out 4
        have p352 : 0 ≤ (x5_2 : Int) := od
        have q352 : x5_2 < (l1_2.length : Int) := od
        obtain ⟨ad352, e352, hx352_0⟩ := Kd.at_string HR1_2.out x5_2 p352 q352
        cases e352
        replace hx352_0 := (HB.out.cell (World.block_lt_of_cell? w _ hx352_0)).trans hx352_0
        replace p352 := eq_true p352
        replace q352 := eq_true q352
        go_wp2
        repeat (go_quiet (fail); try go_wp2)
        go_ret
        exact ⟨rf, bl⟩
      ·rw [if_neg c22] at H
       have c22b0 : decide (x5_2 < (l0_2.length : Int)) = false := decide_eq_false c22
       clear c22
       obtain rfl := Option.some.inj H
       have hnb32 := NB349_350.out
       have hnc32 := NB350_349.out
       have hcz33_0 := cz BK349.out 0 (.bool a0_0)
       have hcz33_1 := cz BK349.out 1 (.bool a0_1)
       have hcz33_2 := cz BK349.out 2 (.slice A0_2 l0_2.length c0_2)
       have hcz33_3 := cz BK349.out 3 (.string a0_3)
       have hcz33_4 := cz BK349.out 4 (.string a0_4)
       have hfz33_0 := blk_frozen BK349.out 0
       have hfz33_1 := blk_frozen BK349.out 1
       have hfz33_2 := blk_frozen BK349.out 2
       have hfz33_3 := blk_frozen BK349.out 3
       have hfz33_4 := blk_frozen BK349.out 4
       go_wp2
       repeat (go_quiet (fail); try go_wp2)
       go_ret
       exact ⟨rf, bl⟩

/-! ### strings_HasSuffix: function 15 -/
def strings_HasSuffix.f (a0 : ByteArray) (a1 : ByteArray) : Option (Bool) := (stringslite_HasSuffix.f a0 a1).bind fun t353 => (some t353)
set_option maxHeartbeats 8000000 in
set_option maxRecDepth 100000 in
theorem strings_HasSuffix.calls (a0 : ByteArray) (a1 : ByteArray) (r : Bool) (w : World) (h : strings_HasSuffix.f a0 a1 = some r) :
  Calls Tryz.prog 15 #[.string a0, .string a1] w fun e w' => e = .returned (.bool r) ∧ Drawn0 w w' := by
 have H : ((stringslite_HasSuffix.f a0 a1).bind fun t353 => (some t353)) = some r := h
 clear h
 obtain ⟨t353, A30, H⟩ := Option.bind_eq_some_iff.mp H
 replace H : (some t353) = some r := H
 have A3 := Aside0.mk A30
 clear A30
 obtain rfl := Option.some.inj H
 go_enter Tryz.func15, Tryz.ntmps15
 go_wp2_with (first | ((with_reducible refine gate_callee (f := 36) rfl ?_); refine goesL_ (some 7) rfl rfl Tryz.func36 kf rfl #[.string a0, .string a1] rfl ml ?_; (with_reducible refine (stringslite_HasSuffix.calls a0 a1 t353 _ A3.out).mono ?_); rintro e w' ⟨rfl, ⟨nd, rfl⟩⟩; refine ⟨_, rfl, ?_⟩))
 go_ret
 exact ⟨by first | rfl | (simp [bneNil]; done) | (simp; done) | (simp [*]; done), dr⟩

end Go.Proofs.YtgelfnjicglmbaaGreatDoor.Q
