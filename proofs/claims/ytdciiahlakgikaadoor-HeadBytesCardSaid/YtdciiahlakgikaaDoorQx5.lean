/- Walks of functions. -/
import Derived.Test.YtdciiahlakgikaaDoorQx0
section
namespace Go.Proofs.YtdciiahlakgikaaDoor.Q
open Go.RowKit Go.Proofs.YtdciiahlakgikaaDoorW.PrintWords Go.Proofs.YtdciiahlakgikaaDoorW.PrintLast Go.Proofs.YtdciiahlakgikaaDoorW.PrintMore
attribute [local go_sem] max2_int min2_int max_two min_two max_three min_three max_four min_four   -- for this text's walks alone
set_option linter.unusedVariables false
set_option linter.unusedSimpArgs false

attribute [local go_sem high] eqA41
/-! ### postriderlaw07_wakes: function 13 -/
def postriderlaw07_wakes.f (k : Nat)  : Option (Bool) := (head_Parse.f k (⟨#[84, 111, 58, 32, 97, 13, 10, 98, 58, 32, 32, 99, 44, 13, 10, 32, 100, 13, 10, 13, 10, 120, 13, 10]⟩ : ByteArray)).bind fun bt179 => (if bt179.2.2.2 = 0 then (if (bt179.1.length : Int) = 2 then (if 0 < (bt179.1.length : Int) then (if ((rd_T41 bt179.1 0).f1).toList = ([97] : List UInt8) then (if 1 < (bt179.1.length : Int) then (if ((((rd_T41 bt179.1 1).f0).toList) == ([98] : List UInt8) && ((((rd_T41 bt179.1 1).f1).toList) == ([99, 44, 32, 100] : List UInt8) && ((((rd_T41 bt179.1 1).f2).toList) == ([98, 58, 32, 32, 99, 44, 13, 10, 32, 100, 13, 10] : List UInt8)))) = true then (if bt179.2.1.toList = ([120, 13, 10] : List UInt8) then (some (!bt179.2.2.1)) else (some false)) else (some false)) else (none)) else (some false)) else (none)) else (some false)) else (some false))
theorem postriderlaw07_wakes.mono : ∀ k, LeO (postriderlaw07_wakes.f k ) (postriderlaw07_wakes.f (k + 1) ) := by
 intro  k
 unfold postriderlaw07_wakes.f
 repeat' first
   | (with_reducible exact head_Parse.mono _ _)
   | (with_reducible exact LeO.refl _)
   | (with_reducible exact LeO.none _)
   | (with_reducible refine LeO.ite ?_ ?_)
   | (with_reducible refine LeO.bind ?_ (fun _ => ?_))
   | exact head_Parse.mono _ _
   | exact LeO.none _
   | refine LeO.ite ?_ ?_
   | refine LeO.bind ?_ (fun _ => ?_)
set_option maxHeartbeats 8000000 in
set_option maxRecDepth 100000 in
theorem postriderlaw07_wakes.calls (k : Nat)  (r : Bool) (w : World) (hG : Glob w) (h : postriderlaw07_wakes.f k  = some r) :
  Calls Tryd.prog 13 #[] w fun e w' => e = .returned (.bool r) ∧ Below w.heap.size w w' := by
 have hu24 := Tryd.underlying24
 have hu41 := Tryd.underlying41
 have HB := Aside0.mk (Below.refl w.heap.size w)
 have HG := Aside0.mk hG
 clear hG
 have H : ((head_Parse.f k (⟨#[84, 111, 58, 32, 97, 13, 10, 98, 58, 32, 32, 99, 44, 13, 10, 32, 100, 13, 10, 13, 10, 120, 13, 10]⟩ : ByteArray)).bind fun bt179 => (if bt179.2.2.2 = 0 then (if (bt179.1.length : Int) = 2 then (if 0 < (bt179.1.length : Int) then (if ((rd_T41 bt179.1 0).f1).toList = ([97] : List UInt8) then (if 1 < (bt179.1.length : Int) then (if ((((rd_T41 bt179.1 1).f0).toList) == ([98] : List UInt8) && ((((rd_T41 bt179.1 1).f1).toList) == ([99, 44, 32, 100] : List UInt8) && ((((rd_T41 bt179.1 1).f2).toList) == ([98, 58, 32, 32, 99, 44, 13, 10, 32, 100, 13, 10] : List UInt8)))) = true then (if bt179.2.1.toList = ([120, 13, 10] : List UInt8) then (some (!bt179.2.2.1)) else (some false)) else (some false)) else (none)) else (some false)) else (none)) else (some false)) else (some false))) = some r := h
 clear h
 replace H := Option.bind_eq_some_iff.mp H
 obtain ⟨⟨t179, t182, t183, t184⟩, A10, H⟩ := H
 replace H : (if t184 = 0 then (if (t179.length : Int) = 2 then (if 0 < (t179.length : Int) then (if ((rd_T41 t179 0).f1).toList = ([97] : List UInt8) then (if 1 < (t179.length : Int) then (if ((((rd_T41 t179 1).f0).toList) == ([98] : List UInt8) && ((((rd_T41 t179 1).f1).toList) == ([99, 44, 32, 100] : List UInt8) && ((((rd_T41 t179 1).f2).toList) == ([98, 58, 32, 32, 99, 44, 13, 10, 32, 100, 13, 10] : List UInt8)))) = true then (if t182.toList = ([120, 13, 10] : List UInt8) then (some (!t183)) else (some false)) else (some false)) else (none)) else (some false)) else (none)) else (some false)) else (some false)) = some r := H
 have A1 := Aside0.mk A10
 clear A10
 by_cases c2 : t184 = 0
 ·rw [if_pos c2] at H
  have c2b0 : (t184 == 0) = true := beq_iff_eq.mpr c2
  have c2b1 : (t184 != 0) = false := bne_eq_false_iff_eq.mpr c2
  clear c2
  by_cases c3 : (t179.length : Int) = 2
  ·rw [if_pos c3] at H
   have c3b0 : ((t179.length : Int) == 2) = true := beq_iff_eq.mpr c3
   have c3b1 : ((t179.length : Int) != 2) = false := bne_eq_false_iff_eq.mpr c3
   clear c3
   by_cases c4 : 0 < (t179.length : Int)
   ·rw [if_pos c4] at H
    have c4b0 : decide (0 < (t179.length : Int)) = true := decide_eq_true c4
    have c4b1 : decide (0 < t179.length) = true := decide_eq_true (by omega)
    clear c4
    by_cases c5 : ((rd_T41 t179 0).f1).toList = ([97] : List UInt8)
    ·rw [if_pos c5] at H
     have c5b0 : (((rd_T41 t179 0).f1).toList == ([97] : List UInt8)) = true := beq_iff_eq.mpr c5
     have c5b1 : (((rd_T41 t179 0).f1).toList != ([97] : List UInt8)) = false := bne_eq_false_iff_eq.mpr c5
     clear c5
     by_cases c6 : 1 < (t179.length : Int)
     ·rw [if_pos c6] at H
      have c6b0 : decide (1 < (t179.length : Int)) = true := decide_eq_true c6
      have c6b1 : decide (1 < t179.length) = true := decide_eq_true (by omega)
      clear c6
      by_cases c7 : ((((rd_T41 t179 1).f0).toList) == ([98] : List UInt8) && ((((rd_T41 t179 1).f1).toList) == ([99, 44, 32, 100] : List UInt8) && ((((rd_T41 t179 1).f2).toList) == ([98, 58, 32, 32, 99, 44, 13, 10, 32, 100, 13, 10] : List UInt8)))) = true
      ·rw [if_pos c7] at H
       have c7b0 : ((((rd_T41 t179 1).f0).toList) == ([98] : List UInt8) && ((((rd_T41 t179 1).f1).toList) == ([99, 44, 32, 100] : List UInt8) && ((((rd_T41 t179 1).f2).toList) == ([98, 58, 32, 32, 99, 44, 13, 10, 32, 100, 13, 10] : List UInt8)))) = true := c7
       (try (have c7b1 : decide ((((rd_T41 t179 1).f0).toList) = ([98] : List UInt8) && ((((rd_T41 t179 1).f1).toList) == ([99, 44, 32, 100] : List UInt8) && ((((rd_T41 t179 1).f2).toList) == ([98, 58, 32, 32, 99, 44, 13, 10, 32, 100, 13, 10] : List UInt8)))) = true := by simpa using c7))
       (try (have c7b2 : ((((rd_T41 t179 1).f0).toList) == ([98] : List UInt8) && ((((rd_T41 t179 1).f1).toList) == ([99, 44, 32, 100] : List UInt8) && ((((rd_T41 t179 1).f2).toList) == ([98, 58, 32, 32, 99, 44, 13, 10, 32, 100, 13, 10] : List UInt8)))) = true := by simpa using c7))
       clear c7
       by_cases c8 : t182.toList = ([120, 13, 10] : List UInt8)
       ·rw [if_pos c8] at H
        have c8b0 : (t182.toList == ([120, 13, 10] : List UInt8)) = true := beq_iff_eq.mpr c8
        have c8b1 : (t182.toList != ([120, 13, 10] : List UInt8)) = false := bne_eq_false_iff_eq.mpr c8
        clear c8
        obtain rfl := Option.some.inj H
        go_enter Tryd.func13, Tryd.ntmps13
        go_wp2_with (first | ((with_reducible refine gate_callee (f := 9) rfl ?_); refine goesL_ (some 4) rfl rfl Tryd.func9 (by kernel_rfl) rfl #[.string (⟨#[84, 111, 58, 32, 97, 13, 10, 98, 58, 32, 32, 99, 44, 13, 10, 32, 100, 13, 10, 13, 10, 120, 13, 10]⟩ : ByteArray)] rfl ml ?_; (with_reducible refine (head_Parse.calls k (⟨#[84, 111, 58, 32, 97, 13, 10, 98, 58, 32, 32, 99, 44, 13, 10, 32, 100, 13, 10, 13, 10, 120, 13, 10]⟩ : ByteArray) t179 t182 t183 t184 _ ?side1 A1.out).mono ?_); (case side1 => exact Glob.below HG.out bl); rintro e w9 ⟨v180, rfl, ho0, hb⟩; refine ⟨_, rfl, ?_⟩; have n0_ := Aside0.mk (Kd.R_lower ho0 (below_size bl)); have n1_ := Aside0.mk (below_step bl hb); clear HB; have HO181 := n0_; have HB := n1_; clear n0_ n1_; (try clear hb); (try clear hb2); (try clear hk); (try clear hi); (try clear ho0)) | ((with_reducible refine gate_dst (N := 1) rfl ?_); (try (refine gate_guard (by rfl) ?_; dsimp only)); refine box_event ?hg (N := 1) ?hd (cs := #[.slice none 0 0, .string (⟨#[]⟩ : ByteArray), .bool false]) (t := 24) ?hr ?_; (case hd => rfl); (case hg => rfl); (case hr => first | (go_simp; done) | (go_simp; rfl)); intro gb185 hg w10 hbox hb; have n0_ := Aside0.mk (Kd.R_below (kr HO181.out) hb); have n1_ := Aside0.mk (below_step bl hb); have n2_ := Aside0.mk (hbox); have n3_ := Aside0.mk ((by rw [hg]; exact (below_size bl) : w.heap.size ≤ gb185)); have n4_ := Aside0.mk ((by rw [hg]; exact (below_size bl) : w.heap.size ≤ gb185)); clear HO181; clear HB; have HO181 := n0_; have HB := n1_; have BK185 := n2_; have GW185 := n3_; have GE185 := n4_; clear n0_ n1_ n2_ n3_ n4_; clear hb hbox hg; obtain ⟨Ao11, co11, eo11⟩ := Kd.R_slice HO181.out; subst eo11; have hcz12_0 : w10.cell? ⟨gb185, 0, none⟩ = some (.slice none 0 0) := (blk_cell BK185.out 0).trans rfl; have hcz12_1 : w10.cell? ⟨gb185, 1, none⟩ = some (.string (⟨#[]⟩ : ByteArray)) := (blk_cell BK185.out 1).trans rfl; have hcz12_2 : w10.cell? ⟨gb185, 2, none⟩ = some (.bool false) := (blk_cell BK185.out 2).trans rfl; have hfz12_0 := blk_frozen BK185.out 0; have hfz12_1 := blk_frozen BK185.out 1; have hfz12_2 := blk_frozen BK185.out 2; have p186 : 0 ≤ (0 : Int) := (by omega); have q186 : 0 < (t179.length : Int) := od; obtain ⟨ad186, e186, hx186_0, hx186_1, hx186_2⟩ := at_T41 (Kd.R_reads' HO181.out).2.2 0 p186 q186; cases e186; have qi186 : (0 < t179.length) = True := eq_true (by omega); (try rw [show ((0 : Int)).toNat = 0 from rfl] at hx186_0); (try rw [show 0 * 3 = 0 from rfl] at hx186_0); (try rw [Addr.add_zero'] at hx186_0); (try rw [show ((0 : Int)).toNat = 0 from rfl] at hx186_1); (try rw [show 0 * 3 = 0 from rfl] at hx186_1); (try rw [Addr.add_zero'] at hx186_1); (try rw [show ((0 : Int)).toNat = 0 from rfl] at hx186_2); (try rw [show 0 * 3 = 0 from rfl] at hx186_2); (try rw [Addr.add_zero'] at hx186_2); have hn186_0 : ad186.block ≠ gb185 := Kd.own_blk (Kd.R_ne HO181.out BK185.out (by decide)); have hn186_1 : ad186.block ≠ gb185 := Kd.own_blk (Kd.R_ne HO181.out BK185.out (by decide)); have hn186_2 : ad186.block ≠ gb185 := Kd.own_blk (Kd.R_ne HO181.out BK185.out (by decide)); replace hx186_0 := (cell_far (p := ⟨gb185, 0, none⟩) (by first | (rw [add_block]; exact hn186_0) | (show (Addr.add _ _).block ≠ _; rw [add_block]; exact hn186_0) | exact hn186_0) (.slice (some ad186) t179.length co11)).trans hx186_0; replace hx186_1 := (cell_far (p := ⟨gb185, 0, none⟩) (by first | (rw [add_block]; exact hn186_0) | (show (Addr.add _ _).block ≠ _; rw [add_block]; exact hn186_0) | exact hn186_0) (.slice (some ad186) t179.length co11)).trans hx186_1; replace hx186_2 := (cell_far (p := ⟨gb185, 0, none⟩) (by first | (rw [add_block]; exact hn186_0) | (show (Addr.add _ _).block ≠ _; rw [add_block]; exact hn186_0) | exact hn186_0) (.slice (some ad186) t179.length co11)).trans hx186_2; replace hx186_0 := (cell_far (p := ⟨gb185, 1, none⟩) (by first | (rw [add_block]; exact hn186_1) | (show (Addr.add _ _).block ≠ _; rw [add_block]; exact hn186_1) | exact hn186_1) (.string t182)).trans hx186_0; replace hx186_1 := (cell_far (p := ⟨gb185, 1, none⟩) (by first | (rw [add_block]; exact hn186_1) | (show (Addr.add _ _).block ≠ _; rw [add_block]; exact hn186_1) | exact hn186_1) (.string t182)).trans hx186_1; replace hx186_2 := (cell_far (p := ⟨gb185, 1, none⟩) (by first | (rw [add_block]; exact hn186_1) | (show (Addr.add _ _).block ≠ _; rw [add_block]; exact hn186_1) | exact hn186_1) (.string t182)).trans hx186_2; replace hx186_0 := (cell_far (p := ⟨gb185, 2, none⟩) (by first | (rw [add_block]; exact hn186_2) | (show (Addr.add _ _).block ≠ _; rw [add_block]; exact hn186_2) | exact hn186_2) (.bool t183)).trans hx186_0; replace hx186_1 := (cell_far (p := ⟨gb185, 2, none⟩) (by first | (rw [add_block]; exact hn186_2) | (show (Addr.add _ _).block ≠ _; rw [add_block]; exact hn186_2) | exact hn186_2) (.bool t183)).trans hx186_1; replace hx186_2 := (cell_far (p := ⟨gb185, 2, none⟩) (by first | (rw [add_block]; exact hn186_2) | (show (Addr.add _ _).block ≠ _; rw [add_block]; exact hn186_2) | exact hn186_2) (.bool t183)).trans hx186_2; clear hn186_0; clear hn186_1; clear hn186_2; replace p186 := eq_true p186; replace q186 := eq_true q186; have p187 : 0 ≤ (1 : Int) := (by omega); have q187 : 1 < (t179.length : Int) := od; obtain ⟨ad187, e187, hx187_0, hx187_1, hx187_2⟩ := at_T41 (Kd.R_reads' HO181.out).2.2 1 p187 q187; obtain rfl : ad186 = ad187 := (by injection e187); (try simp only [show (1 : Int).toNat = 1 from rfl, Nat.reduceMul, Nat.reduceEqDiff, Go.Addr.add, ↓reduceIte] at hx187_0); (try simp only [show (1 : Int).toNat = 1 from rfl, Nat.reduceMul, Nat.reduceEqDiff, Go.Addr.add, ↓reduceIte] at hx187_1); (try simp only [show (1 : Int).toNat = 1 from rfl, Nat.reduceMul, Nat.reduceEqDiff, Go.Addr.add, ↓reduceIte] at hx187_2); have qi187 : (1 < t179.length) = True := eq_true (by omega); (try rw [show ((1 : Int)).toNat = 1 from rfl] at hx187_0); (try rw [show 1 * 3 = 3 from rfl] at hx187_0); (try rw [show ((1 : Int)).toNat = 1 from rfl] at hx187_1); (try rw [show 1 * 3 = 3 from rfl] at hx187_1); (try rw [show ((1 : Int)).toNat = 1 from rfl] at hx187_2); (try rw [show 1 * 3 = 3 from rfl] at hx187_2); have hn187_0 : ad186.block ≠ gb185 := Kd.own_blk (Kd.R_ne HO181.out BK185.out (by decide)); have hn187_1 : ad186.block ≠ gb185 := Kd.own_blk (Kd.R_ne HO181.out BK185.out (by decide)); have hn187_2 : ad186.block ≠ gb185 := Kd.own_blk (Kd.R_ne HO181.out BK185.out (by decide)); replace hx187_0 := (cell_far (p := ⟨gb185, 0, none⟩) (by first | (rw [add_block]; exact hn187_0) | (show (Addr.add _ _).block ≠ _; rw [add_block]; exact hn187_0) | exact hn187_0) (.slice (some ad186) t179.length co11)).trans hx187_0; replace hx187_1 := (cell_far (p := ⟨gb185, 0, none⟩) (by first | (rw [add_block]; exact hn187_0) | (show (Addr.add _ _).block ≠ _; rw [add_block]; exact hn187_0) | exact hn187_0) (.slice (some ad186) t179.length co11)).trans hx187_1; replace hx187_2 := (cell_far (p := ⟨gb185, 0, none⟩) (by first | (rw [add_block]; exact hn187_0) | (show (Addr.add _ _).block ≠ _; rw [add_block]; exact hn187_0) | exact hn187_0) (.slice (some ad186) t179.length co11)).trans hx187_2; replace hx187_0 := (cell_far (p := ⟨gb185, 1, none⟩) (by first | (rw [add_block]; exact hn187_1) | (show (Addr.add _ _).block ≠ _; rw [add_block]; exact hn187_1) | exact hn187_1) (.string t182)).trans hx187_0; replace hx187_1 := (cell_far (p := ⟨gb185, 1, none⟩) (by first | (rw [add_block]; exact hn187_1) | (show (Addr.add _ _).block ≠ _; rw [add_block]; exact hn187_1) | exact hn187_1) (.string t182)).trans hx187_1; replace hx187_2 := (cell_far (p := ⟨gb185, 1, none⟩) (by first | (rw [add_block]; exact hn187_1) | (show (Addr.add _ _).block ≠ _; rw [add_block]; exact hn187_1) | exact hn187_1) (.string t182)).trans hx187_2; replace hx187_0 := (cell_far (p := ⟨gb185, 2, none⟩) (by first | (rw [add_block]; exact hn187_2) | (show (Addr.add _ _).block ≠ _; rw [add_block]; exact hn187_2) | exact hn187_2) (.bool t183)).trans hx187_0; replace hx187_1 := (cell_far (p := ⟨gb185, 2, none⟩) (by first | (rw [add_block]; exact hn187_2) | (show (Addr.add _ _).block ≠ _; rw [add_block]; exact hn187_2) | exact hn187_2) (.bool t183)).trans hx187_1; replace hx187_2 := (cell_far (p := ⟨gb185, 2, none⟩) (by first | (rw [add_block]; exact hn187_2) | (show (Addr.add _ _).block ≠ _; rw [add_block]; exact hn187_2) | exact hn187_2) (.bool t183)).trans hx187_2; clear hn187_0; clear hn187_1; clear hn187_2; replace p187 := eq_true p187; replace q187 := eq_true q187))
        go_ret
        exact ⟨by first | rfl | (simp [bneNil]; done) | (simp [errW_none, errW_some] <;> rfl) | (simp [*, errW_none, errW_some] <;> rfl), by repeat (first | (with_reducible first | exact HB.out | apply below_alloc | apply pw_below_drewN | apply below_drew1 | refine below_set ?_ GE185.out) | exact HB.out)⟩
       ·rw [if_neg c8] at H
        have c8b0 : (t182.toList == ([120, 13, 10] : List UInt8)) = false := beq_eq_false_iff_ne.mpr c8
        have c8b1 : (t182.toList != ([120, 13, 10] : List UInt8)) = true := bne_iff_ne.mpr c8
        obtain rfl := Option.some.inj H
        go_enter Tryd.func13, Tryd.ntmps13
        go_wp2_with (first | ((with_reducible refine gate_callee (f := 9) rfl ?_); refine goesL_ (some 4) rfl rfl Tryd.func9 (by kernel_rfl) rfl #[.string (⟨#[84, 111, 58, 32, 97, 13, 10, 98, 58, 32, 32, 99, 44, 13, 10, 32, 100, 13, 10, 13, 10, 120, 13, 10]⟩ : ByteArray)] rfl ml ?_; (with_reducible refine (head_Parse.calls k (⟨#[84, 111, 58, 32, 97, 13, 10, 98, 58, 32, 32, 99, 44, 13, 10, 32, 100, 13, 10, 13, 10, 120, 13, 10]⟩ : ByteArray) t179 t182 t183 t184 _ ?side1 A1.out).mono ?_); (case side1 => exact Glob.below HG.out bl); rintro e w13 ⟨v180, rfl, ho0, hb⟩; refine ⟨_, rfl, ?_⟩; have n0_ := Aside0.mk (Kd.R_lower ho0 (below_size bl)); have n1_ := Aside0.mk (below_step bl hb); clear HB; have HO181 := n0_; have HB := n1_; clear n0_ n1_; (try clear hb); (try clear hb2); (try clear hk); (try clear hi); (try clear ho0)) | ((with_reducible refine gate_dst (N := 1) rfl ?_); (try (refine gate_guard (by rfl) ?_; dsimp only)); refine box_event ?hg (N := 1) ?hd (cs := #[.slice none 0 0, .string (⟨#[]⟩ : ByteArray), .bool false]) (t := 24) ?hr ?_; (case hd => rfl); (case hg => rfl); (case hr => first | (go_simp; done) | (go_simp; rfl)); intro gb185 hg w14 hbox hb; have n0_ := Aside0.mk (Kd.R_below (kr HO181.out) hb); have n1_ := Aside0.mk (below_step bl hb); have n2_ := Aside0.mk (hbox); have n3_ := Aside0.mk ((by rw [hg]; exact (below_size bl) : w.heap.size ≤ gb185)); have n4_ := Aside0.mk ((by rw [hg]; exact (below_size bl) : w.heap.size ≤ gb185)); clear HO181; clear HB; have HO181 := n0_; have HB := n1_; have BK185 := n2_; have GW185 := n3_; have GE185 := n4_; clear n0_ n1_ n2_ n3_ n4_; clear hb hbox hg; obtain ⟨Ao15, co15, eo15⟩ := Kd.R_slice HO181.out; subst eo15; have hcz16_0 : w14.cell? ⟨gb185, 0, none⟩ = some (.slice none 0 0) := (blk_cell BK185.out 0).trans rfl; have hcz16_1 : w14.cell? ⟨gb185, 1, none⟩ = some (.string (⟨#[]⟩ : ByteArray)) := (blk_cell BK185.out 1).trans rfl; have hcz16_2 : w14.cell? ⟨gb185, 2, none⟩ = some (.bool false) := (blk_cell BK185.out 2).trans rfl; have hfz16_0 := blk_frozen BK185.out 0; have hfz16_1 := blk_frozen BK185.out 1; have hfz16_2 := blk_frozen BK185.out 2; have p186 : 0 ≤ (0 : Int) := (by omega); have q186 : 0 < (t179.length : Int) := od; obtain ⟨ad186, e186, hx186_0, hx186_1, hx186_2⟩ := at_T41 (Kd.R_reads' HO181.out).2.2 0 p186 q186; cases e186; have qi186 : (0 < t179.length) = True := eq_true (by omega); (try rw [show ((0 : Int)).toNat = 0 from rfl] at hx186_0); (try rw [show 0 * 3 = 0 from rfl] at hx186_0); (try rw [Addr.add_zero'] at hx186_0); (try rw [show ((0 : Int)).toNat = 0 from rfl] at hx186_1); (try rw [show 0 * 3 = 0 from rfl] at hx186_1); (try rw [Addr.add_zero'] at hx186_1); (try rw [show ((0 : Int)).toNat = 0 from rfl] at hx186_2); (try rw [show 0 * 3 = 0 from rfl] at hx186_2); (try rw [Addr.add_zero'] at hx186_2); have hn186_0 : ad186.block ≠ gb185 := Kd.own_blk (Kd.R_ne HO181.out BK185.out (by decide)); have hn186_1 : ad186.block ≠ gb185 := Kd.own_blk (Kd.R_ne HO181.out BK185.out (by decide)); have hn186_2 : ad186.block ≠ gb185 := Kd.own_blk (Kd.R_ne HO181.out BK185.out (by decide)); replace hx186_0 := (cell_far (p := ⟨gb185, 0, none⟩) (by first | (rw [add_block]; exact hn186_0) | (show (Addr.add _ _).block ≠ _; rw [add_block]; exact hn186_0) | exact hn186_0) (.slice (some ad186) t179.length co15)).trans hx186_0; replace hx186_1 := (cell_far (p := ⟨gb185, 0, none⟩) (by first | (rw [add_block]; exact hn186_0) | (show (Addr.add _ _).block ≠ _; rw [add_block]; exact hn186_0) | exact hn186_0) (.slice (some ad186) t179.length co15)).trans hx186_1; replace hx186_2 := (cell_far (p := ⟨gb185, 0, none⟩) (by first | (rw [add_block]; exact hn186_0) | (show (Addr.add _ _).block ≠ _; rw [add_block]; exact hn186_0) | exact hn186_0) (.slice (some ad186) t179.length co15)).trans hx186_2; replace hx186_0 := (cell_far (p := ⟨gb185, 1, none⟩) (by first | (rw [add_block]; exact hn186_1) | (show (Addr.add _ _).block ≠ _; rw [add_block]; exact hn186_1) | exact hn186_1) (.string t182)).trans hx186_0; replace hx186_1 := (cell_far (p := ⟨gb185, 1, none⟩) (by first | (rw [add_block]; exact hn186_1) | (show (Addr.add _ _).block ≠ _; rw [add_block]; exact hn186_1) | exact hn186_1) (.string t182)).trans hx186_1; replace hx186_2 := (cell_far (p := ⟨gb185, 1, none⟩) (by first | (rw [add_block]; exact hn186_1) | (show (Addr.add _ _).block ≠ _; rw [add_block]; exact hn186_1) | exact hn186_1) (.string t182)).trans hx186_2; replace hx186_0 := (cell_far (p := ⟨gb185, 2, none⟩) (by first | (rw [add_block]; exact hn186_2) | (show (Addr.add _ _).block ≠ _; rw [add_block]; exact hn186_2) | exact hn186_2) (.bool t183)).trans hx186_0; replace hx186_1 := (cell_far (p := ⟨gb185, 2, none⟩) (by first | (rw [add_block]; exact hn186_2) | (show (Addr.add _ _).block ≠ _; rw [add_block]; exact hn186_2) | exact hn186_2) (.bool t183)).trans hx186_1; replace hx186_2 := (cell_far (p := ⟨gb185, 2, none⟩) (by first | (rw [add_block]; exact hn186_2) | (show (Addr.add _ _).block ≠ _; rw [add_block]; exact hn186_2) | exact hn186_2) (.bool t183)).trans hx186_2; clear hn186_0; clear hn186_1; clear hn186_2; replace p186 := eq_true p186; replace q186 := eq_true q186; have p187 : 0 ≤ (1 : Int) := (by omega); have q187 : 1 < (t179.length : Int) := od; obtain ⟨ad187, e187, hx187_0, hx187_1, hx187_2⟩ := at_T41 (Kd.R_reads' HO181.out).2.2 1 p187 q187; obtain rfl : ad186 = ad187 := (by injection e187); (try simp only [show (1 : Int).toNat = 1 from rfl, Nat.reduceMul, Nat.reduceEqDiff, Go.Addr.add, ↓reduceIte] at hx187_0); (try simp only [show (1 : Int).toNat = 1 from rfl, Nat.reduceMul, Nat.reduceEqDiff, Go.Addr.add, ↓reduceIte] at hx187_1); (try simp only [show (1 : Int).toNat = 1 from rfl, Nat.reduceMul, Nat.reduceEqDiff, Go.Addr.add, ↓reduceIte] at hx187_2); have qi187 : (1 < t179.length) = True := eq_true (by omega); (try rw [show ((1 : Int)).toNat = 1 from rfl] at hx187_0); (try rw [show 1 * 3 = 3 from rfl] at hx187_0); (try rw [show ((1 : Int)).toNat = 1 from rfl] at hx187_1); (try rw [show 1 * 3 = 3 from rfl] at hx187_1); (try rw [show ((1 : Int)).toNat = 1 from rfl] at hx187_2); (try rw [show 1 * 3 = 3 from rfl] at hx187_2); have hn187_0 : ad186.block ≠ gb185 := Kd.own_blk (Kd.R_ne HO181.out BK185.out (by decide)); have hn187_1 : ad186.block ≠ gb185 := Kd.own_blk (Kd.R_ne HO181.out BK185.out (by decide)); have hn187_2 : ad186.block ≠ gb185 := Kd.own_blk (Kd.R_ne HO181.out BK185.out (by decide)); replace hx187_0 := (cell_far (p := ⟨gb185, 0, none⟩) (by first | (rw [add_block]; exact hn187_0) | (show (Addr.add _ _).block ≠ _; rw [add_block]; exact hn187_0) | exact hn187_0) (.slice (some ad186) t179.length co15)).trans hx187_0; replace hx187_1 := (cell_far (p := ⟨gb185, 0, none⟩) (by first | (rw [add_block]; exact hn187_0) | (show (Addr.add _ _).block ≠ _; rw [add_block]; exact hn187_0) | exact hn187_0) (.slice (some ad186) t179.length co15)).trans hx187_1; replace hx187_2 := (cell_far (p := ⟨gb185, 0, none⟩) (by first | (rw [add_block]; exact hn187_0) | (show (Addr.add _ _).block ≠ _; rw [add_block]; exact hn187_0) | exact hn187_0) (.slice (some ad186) t179.length co15)).trans hx187_2; replace hx187_0 := (cell_far (p := ⟨gb185, 1, none⟩) (by first | (rw [add_block]; exact hn187_1) | (show (Addr.add _ _).block ≠ _; rw [add_block]; exact hn187_1) | exact hn187_1) (.string t182)).trans hx187_0; replace hx187_1 := (cell_far (p := ⟨gb185, 1, none⟩) (by first | (rw [add_block]; exact hn187_1) | (show (Addr.add _ _).block ≠ _; rw [add_block]; exact hn187_1) | exact hn187_1) (.string t182)).trans hx187_1; replace hx187_2 := (cell_far (p := ⟨gb185, 1, none⟩) (by first | (rw [add_block]; exact hn187_1) | (show (Addr.add _ _).block ≠ _; rw [add_block]; exact hn187_1) | exact hn187_1) (.string t182)).trans hx187_2; replace hx187_0 := (cell_far (p := ⟨gb185, 2, none⟩) (by first | (rw [add_block]; exact hn187_2) | (show (Addr.add _ _).block ≠ _; rw [add_block]; exact hn187_2) | exact hn187_2) (.bool t183)).trans hx187_0; replace hx187_1 := (cell_far (p := ⟨gb185, 2, none⟩) (by first | (rw [add_block]; exact hn187_2) | (show (Addr.add _ _).block ≠ _; rw [add_block]; exact hn187_2) | exact hn187_2) (.bool t183)).trans hx187_1; replace hx187_2 := (cell_far (p := ⟨gb185, 2, none⟩) (by first | (rw [add_block]; exact hn187_2) | (show (Addr.add _ _).block ≠ _; rw [add_block]; exact hn187_2) | exact hn187_2) (.bool t183)).trans hx187_2; clear hn187_0; clear hn187_1; clear hn187_2; replace p187 := eq_true p187; replace q187 := eq_true q187))
        go_ret
        exact ⟨by first | rfl | (simp [bneNil]; done) | (simp [errW_none, errW_some] <;> rfl) | (simp [*, errW_none, errW_some] <;> rfl), by repeat (first | (with_reducible first | exact HB.out | apply below_alloc | apply pw_below_drewN | apply below_drew1 | refine below_set ?_ GE185.out) | exact HB.out)⟩
      ·rw [if_neg c7] at H
       have c7b0 : ((((rd_T41 t179 1).f0).toList) == ([98] : List UInt8) && ((((rd_T41 t179 1).f1).toList) == ([99, 44, 32, 100] : List UInt8) && ((((rd_T41 t179 1).f2).toList) == ([98, 58, 32, 32, 99, 44, 13, 10, 32, 100, 13, 10] : List UInt8)))) = false := by simpa using c7
       (try (have c7b1 : decide ((((rd_T41 t179 1).f0).toList) = ([98] : List UInt8) && ((((rd_T41 t179 1).f1).toList) == ([99, 44, 32, 100] : List UInt8) && ((((rd_T41 t179 1).f2).toList) == ([98, 58, 32, 32, 99, 44, 13, 10, 32, 100, 13, 10] : List UInt8)))) = false := by simpa using c7))
       (try (have c7b2 : ((((rd_T41 t179 1).f0).toList) == ([98] : List UInt8) && ((((rd_T41 t179 1).f1).toList) == ([99, 44, 32, 100] : List UInt8) && ((((rd_T41 t179 1).f2).toList) == ([98, 58, 32, 32, 99, 44, 13, 10, 32, 100, 13, 10] : List UInt8)))) = false := by simpa using c7))
       (try (have c7b3 : ¬ ((((rd_T41 t179 1).f0).toList) = ([98] : List UInt8) && ((((rd_T41 t179 1).f1).toList) == ([99, 44, 32, 100] : List UInt8) && ((((rd_T41 t179 1).f2).toList) == ([98, 58, 32, 32, 99, 44, 13, 10, 32, 100, 13, 10] : List UInt8)))) := by simpa using c7))
       clear c7
       obtain rfl := Option.some.inj H
       go_enter Tryd.func13, Tryd.ntmps13
       go_wp2_with (first | ((with_reducible refine gate_callee (f := 9) rfl ?_); refine goesL_ (some 4) rfl rfl Tryd.func9 (by kernel_rfl) rfl #[.string (⟨#[84, 111, 58, 32, 97, 13, 10, 98, 58, 32, 32, 99, 44, 13, 10, 32, 100, 13, 10, 13, 10, 120, 13, 10]⟩ : ByteArray)] rfl ml ?_; (with_reducible refine (head_Parse.calls k (⟨#[84, 111, 58, 32, 97, 13, 10, 98, 58, 32, 32, 99, 44, 13, 10, 32, 100, 13, 10, 13, 10, 120, 13, 10]⟩ : ByteArray) t179 t182 t183 t184 _ ?side1 A1.out).mono ?_); (case side1 => exact Glob.below HG.out bl); rintro e w17 ⟨v180, rfl, ho0, hb⟩; refine ⟨_, rfl, ?_⟩; have n0_ := Aside0.mk (Kd.R_lower ho0 (below_size bl)); have n1_ := Aside0.mk (below_step bl hb); clear HB; have HO181 := n0_; have HB := n1_; clear n0_ n1_; (try clear hb); (try clear hb2); (try clear hk); (try clear hi); (try clear ho0)) | ((with_reducible refine gate_dst (N := 1) rfl ?_); (try (refine gate_guard (by rfl) ?_; dsimp only)); refine box_event ?hg (N := 1) ?hd (cs := #[.slice none 0 0, .string (⟨#[]⟩ : ByteArray), .bool false]) (t := 24) ?hr ?_; (case hd => rfl); (case hg => rfl); (case hr => first | (go_simp; done) | (go_simp; rfl)); intro gb185 hg w18 hbox hb; have n0_ := Aside0.mk (Kd.R_below (kr HO181.out) hb); have n1_ := Aside0.mk (below_step bl hb); have n2_ := Aside0.mk (hbox); have n3_ := Aside0.mk ((by rw [hg]; exact (below_size bl) : w.heap.size ≤ gb185)); have n4_ := Aside0.mk ((by rw [hg]; exact (below_size bl) : w.heap.size ≤ gb185)); clear HO181; clear HB; have HO181 := n0_; have HB := n1_; have BK185 := n2_; have GW185 := n3_; have GE185 := n4_; clear n0_ n1_ n2_ n3_ n4_; clear hb hbox hg; obtain ⟨Ao19, co19, eo19⟩ := Kd.R_slice HO181.out; subst eo19; have hcz20_0 : w18.cell? ⟨gb185, 0, none⟩ = some (.slice none 0 0) := (blk_cell BK185.out 0).trans rfl; have hcz20_1 : w18.cell? ⟨gb185, 1, none⟩ = some (.string (⟨#[]⟩ : ByteArray)) := (blk_cell BK185.out 1).trans rfl; have hcz20_2 : w18.cell? ⟨gb185, 2, none⟩ = some (.bool false) := (blk_cell BK185.out 2).trans rfl; have hfz20_0 := blk_frozen BK185.out 0; have hfz20_1 := blk_frozen BK185.out 1; have hfz20_2 := blk_frozen BK185.out 2; have p186 : 0 ≤ (0 : Int) := (by omega); have q186 : 0 < (t179.length : Int) := od; obtain ⟨ad186, e186, hx186_0, hx186_1, hx186_2⟩ := at_T41 (Kd.R_reads' HO181.out).2.2 0 p186 q186; cases e186; have qi186 : (0 < t179.length) = True := eq_true (by omega); (try rw [show ((0 : Int)).toNat = 0 from rfl] at hx186_0); (try rw [show 0 * 3 = 0 from rfl] at hx186_0); (try rw [Addr.add_zero'] at hx186_0); (try rw [show ((0 : Int)).toNat = 0 from rfl] at hx186_1); (try rw [show 0 * 3 = 0 from rfl] at hx186_1); (try rw [Addr.add_zero'] at hx186_1); (try rw [show ((0 : Int)).toNat = 0 from rfl] at hx186_2); (try rw [show 0 * 3 = 0 from rfl] at hx186_2); (try rw [Addr.add_zero'] at hx186_2); have hn186_0 : ad186.block ≠ gb185 := Kd.own_blk (Kd.R_ne HO181.out BK185.out (by decide)); have hn186_1 : ad186.block ≠ gb185 := Kd.own_blk (Kd.R_ne HO181.out BK185.out (by decide)); have hn186_2 : ad186.block ≠ gb185 := Kd.own_blk (Kd.R_ne HO181.out BK185.out (by decide)); replace hx186_0 := (cell_far (p := ⟨gb185, 0, none⟩) (by first | (rw [add_block]; exact hn186_0) | (show (Addr.add _ _).block ≠ _; rw [add_block]; exact hn186_0) | exact hn186_0) (.slice (some ad186) t179.length co19)).trans hx186_0; replace hx186_1 := (cell_far (p := ⟨gb185, 0, none⟩) (by first | (rw [add_block]; exact hn186_0) | (show (Addr.add _ _).block ≠ _; rw [add_block]; exact hn186_0) | exact hn186_0) (.slice (some ad186) t179.length co19)).trans hx186_1; replace hx186_2 := (cell_far (p := ⟨gb185, 0, none⟩) (by first | (rw [add_block]; exact hn186_0) | (show (Addr.add _ _).block ≠ _; rw [add_block]; exact hn186_0) | exact hn186_0) (.slice (some ad186) t179.length co19)).trans hx186_2; replace hx186_0 := (cell_far (p := ⟨gb185, 1, none⟩) (by first | (rw [add_block]; exact hn186_1) | (show (Addr.add _ _).block ≠ _; rw [add_block]; exact hn186_1) | exact hn186_1) (.string t182)).trans hx186_0; replace hx186_1 := (cell_far (p := ⟨gb185, 1, none⟩) (by first | (rw [add_block]; exact hn186_1) | (show (Addr.add _ _).block ≠ _; rw [add_block]; exact hn186_1) | exact hn186_1) (.string t182)).trans hx186_1; replace hx186_2 := (cell_far (p := ⟨gb185, 1, none⟩) (by first | (rw [add_block]; exact hn186_1) | (show (Addr.add _ _).block ≠ _; rw [add_block]; exact hn186_1) | exact hn186_1) (.string t182)).trans hx186_2; replace hx186_0 := (cell_far (p := ⟨gb185, 2, none⟩) (by first | (rw [add_block]; exact hn186_2) | (show (Addr.add _ _).block ≠ _; rw [add_block]; exact hn186_2) | exact hn186_2) (.bool t183)).trans hx186_0; replace hx186_1 := (cell_far (p := ⟨gb185, 2, none⟩) (by first | (rw [add_block]; exact hn186_2) | (show (Addr.add _ _).block ≠ _; rw [add_block]; exact hn186_2) | exact hn186_2) (.bool t183)).trans hx186_1; replace hx186_2 := (cell_far (p := ⟨gb185, 2, none⟩) (by first | (rw [add_block]; exact hn186_2) | (show (Addr.add _ _).block ≠ _; rw [add_block]; exact hn186_2) | exact hn186_2) (.bool t183)).trans hx186_2; clear hn186_0; clear hn186_1; clear hn186_2; replace p186 := eq_true p186; replace q186 := eq_true q186; have p187 : 0 ≤ (1 : Int) := (by omega); have q187 : 1 < (t179.length : Int) := od; obtain ⟨ad187, e187, hx187_0, hx187_1, hx187_2⟩ := at_T41 (Kd.R_reads' HO181.out).2.2 1 p187 q187; obtain rfl : ad186 = ad187 := (by injection e187); (try simp only [show (1 : Int).toNat = 1 from rfl, Nat.reduceMul, Nat.reduceEqDiff, Go.Addr.add, ↓reduceIte] at hx187_0); (try simp only [show (1 : Int).toNat = 1 from rfl, Nat.reduceMul, Nat.reduceEqDiff, Go.Addr.add, ↓reduceIte] at hx187_1); (try simp only [show (1 : Int).toNat = 1 from rfl, Nat.reduceMul, Nat.reduceEqDiff, Go.Addr.add, ↓reduceIte] at hx187_2); have qi187 : (1 < t179.length) = True := eq_true (by omega); (try rw [show ((1 : Int)).toNat = 1 from rfl] at hx187_0); (try rw [show 1 * 3 = 3 from rfl] at hx187_0); (try rw [show ((1 : Int)).toNat = 1 from rfl] at hx187_1); (try rw [show 1 * 3 = 3 from rfl] at hx187_1); (try rw [show ((1 : Int)).toNat = 1 from rfl] at hx187_2); (try rw [show 1 * 3 = 3 from rfl] at hx187_2); have hn187_0 : ad186.block ≠ gb185 := Kd.own_blk (Kd.R_ne HO181.out BK185.out (by decide)); have hn187_1 : ad186.block ≠ gb185 := Kd.own_blk (Kd.R_ne HO181.out BK185.out (by decide)); have hn187_2 : ad186.block ≠ gb185 := Kd.own_blk (Kd.R_ne HO181.out BK185.out (by decide)); replace hx187_0 := (cell_far (p := ⟨gb185, 0, none⟩) (by first | (rw [add_block]; exact hn187_0) | (show (Addr.add _ _).block ≠ _; rw [add_block]; exact hn187_0) | exact hn187_0) (.slice (some ad186) t179.length co19)).trans hx187_0; replace hx187_1 := (cell_far (p := ⟨gb185, 0, none⟩) (by first | (rw [add_block]; exact hn187_0) | (show (Addr.add _ _).block ≠ _; rw [add_block]; exact hn187_0) | exact hn187_0) (.slice (some ad186) t179.length co19)).trans hx187_1; replace hx187_2 := (cell_far (p := ⟨gb185, 0, none⟩) (by first | (rw [add_block]; exact hn187_0) | (show (Addr.add _ _).block ≠ _; rw [add_block]; exact hn187_0) | exact hn187_0) (.slice (some ad186) t179.length co19)).trans hx187_2; replace hx187_0 := (cell_far (p := ⟨gb185, 1, none⟩) (by first | (rw [add_block]; exact hn187_1) | (show (Addr.add _ _).block ≠ _; rw [add_block]; exact hn187_1) | exact hn187_1) (.string t182)).trans hx187_0; replace hx187_1 := (cell_far (p := ⟨gb185, 1, none⟩) (by first | (rw [add_block]; exact hn187_1) | (show (Addr.add _ _).block ≠ _; rw [add_block]; exact hn187_1) | exact hn187_1) (.string t182)).trans hx187_1; replace hx187_2 := (cell_far (p := ⟨gb185, 1, none⟩) (by first | (rw [add_block]; exact hn187_1) | (show (Addr.add _ _).block ≠ _; rw [add_block]; exact hn187_1) | exact hn187_1) (.string t182)).trans hx187_2; replace hx187_0 := (cell_far (p := ⟨gb185, 2, none⟩) (by first | (rw [add_block]; exact hn187_2) | (show (Addr.add _ _).block ≠ _; rw [add_block]; exact hn187_2) | exact hn187_2) (.bool t183)).trans hx187_0; replace hx187_1 := (cell_far (p := ⟨gb185, 2, none⟩) (by first | (rw [add_block]; exact hn187_2) | (show (Addr.add _ _).block ≠ _; rw [add_block]; exact hn187_2) | exact hn187_2) (.bool t183)).trans hx187_1; replace hx187_2 := (cell_far (p := ⟨gb185, 2, none⟩) (by first | (rw [add_block]; exact hn187_2) | (show (Addr.add _ _).block ≠ _; rw [add_block]; exact hn187_2) | exact hn187_2) (.bool t183)).trans hx187_2; clear hn187_0; clear hn187_1; clear hn187_2; replace p187 := eq_true p187; replace q187 := eq_true q187))
       go_ret
       exact ⟨by first | rfl | (simp [bneNil]; done) | (simp [errW_none, errW_some] <;> rfl) | (simp [*, errW_none, errW_some] <;> rfl), by repeat (first | (with_reducible first | exact HB.out | apply below_alloc | apply pw_below_drewN | apply below_drew1 | refine below_set ?_ GE185.out) | exact HB.out)⟩
     ·rw [if_neg c6] at H
      exact absurd H (by simp)
    ·rw [if_neg c5] at H
     have c5b0 : (((rd_T41 t179 0).f1).toList == ([97] : List UInt8)) = false := beq_eq_false_iff_ne.mpr c5
     have c5b1 : (((rd_T41 t179 0).f1).toList != ([97] : List UInt8)) = true := bne_iff_ne.mpr c5
     obtain rfl := Option.some.inj H
     go_enter Tryd.func13, Tryd.ntmps13
     go_wp2_with (first | ((with_reducible refine gate_callee (f := 9) rfl ?_); refine goesL_ (some 4) rfl rfl Tryd.func9 (by kernel_rfl) rfl #[.string (⟨#[84, 111, 58, 32, 97, 13, 10, 98, 58, 32, 32, 99, 44, 13, 10, 32, 100, 13, 10, 13, 10, 120, 13, 10]⟩ : ByteArray)] rfl ml ?_; (with_reducible refine (head_Parse.calls k (⟨#[84, 111, 58, 32, 97, 13, 10, 98, 58, 32, 32, 99, 44, 13, 10, 32, 100, 13, 10, 13, 10, 120, 13, 10]⟩ : ByteArray) t179 t182 t183 t184 _ ?side1 A1.out).mono ?_); (case side1 => exact Glob.below HG.out bl); rintro e w21 ⟨v180, rfl, ho0, hb⟩; refine ⟨_, rfl, ?_⟩; have n0_ := Aside0.mk (Kd.R_lower ho0 (below_size bl)); have n1_ := Aside0.mk (below_step bl hb); clear HB; have HO181 := n0_; have HB := n1_; clear n0_ n1_; (try clear hb); (try clear hb2); (try clear hk); (try clear hi); (try clear ho0)) | ((with_reducible refine gate_dst (N := 1) rfl ?_); (try (refine gate_guard (by rfl) ?_; dsimp only)); refine box_event ?hg (N := 1) ?hd (cs := #[.slice none 0 0, .string (⟨#[]⟩ : ByteArray), .bool false]) (t := 24) ?hr ?_; (case hd => rfl); (case hg => rfl); (case hr => first | (go_simp; done) | (go_simp; rfl)); intro gb185 hg w22 hbox hb; have n0_ := Aside0.mk (Kd.R_below (kr HO181.out) hb); have n1_ := Aside0.mk (below_step bl hb); have n2_ := Aside0.mk (hbox); have n3_ := Aside0.mk ((by rw [hg]; exact (below_size bl) : w.heap.size ≤ gb185)); have n4_ := Aside0.mk ((by rw [hg]; exact (below_size bl) : w.heap.size ≤ gb185)); clear HO181; clear HB; have HO181 := n0_; have HB := n1_; have BK185 := n2_; have GW185 := n3_; have GE185 := n4_; clear n0_ n1_ n2_ n3_ n4_; clear hb hbox hg; obtain ⟨Ao23, co23, eo23⟩ := Kd.R_slice HO181.out; subst eo23; have hcz24_0 : w22.cell? ⟨gb185, 0, none⟩ = some (.slice none 0 0) := (blk_cell BK185.out 0).trans rfl; have hcz24_1 : w22.cell? ⟨gb185, 1, none⟩ = some (.string (⟨#[]⟩ : ByteArray)) := (blk_cell BK185.out 1).trans rfl; have hcz24_2 : w22.cell? ⟨gb185, 2, none⟩ = some (.bool false) := (blk_cell BK185.out 2).trans rfl; have hfz24_0 := blk_frozen BK185.out 0; have hfz24_1 := blk_frozen BK185.out 1; have hfz24_2 := blk_frozen BK185.out 2; have p186 : 0 ≤ (0 : Int) := (by omega); have q186 : 0 < (t179.length : Int) := od; obtain ⟨ad186, e186, hx186_0, hx186_1, hx186_2⟩ := at_T41 (Kd.R_reads' HO181.out).2.2 0 p186 q186; cases e186; have qi186 : (0 < t179.length) = True := eq_true (by omega); (try rw [show ((0 : Int)).toNat = 0 from rfl] at hx186_0); (try rw [show 0 * 3 = 0 from rfl] at hx186_0); (try rw [Addr.add_zero'] at hx186_0); (try rw [show ((0 : Int)).toNat = 0 from rfl] at hx186_1); (try rw [show 0 * 3 = 0 from rfl] at hx186_1); (try rw [Addr.add_zero'] at hx186_1); (try rw [show ((0 : Int)).toNat = 0 from rfl] at hx186_2); (try rw [show 0 * 3 = 0 from rfl] at hx186_2); (try rw [Addr.add_zero'] at hx186_2); have hn186_0 : ad186.block ≠ gb185 := Kd.own_blk (Kd.R_ne HO181.out BK185.out (by decide)); have hn186_1 : ad186.block ≠ gb185 := Kd.own_blk (Kd.R_ne HO181.out BK185.out (by decide)); have hn186_2 : ad186.block ≠ gb185 := Kd.own_blk (Kd.R_ne HO181.out BK185.out (by decide)); replace hx186_0 := (cell_far (p := ⟨gb185, 0, none⟩) (by first | (rw [add_block]; exact hn186_0) | (show (Addr.add _ _).block ≠ _; rw [add_block]; exact hn186_0) | exact hn186_0) (.slice (some ad186) t179.length co23)).trans hx186_0; replace hx186_1 := (cell_far (p := ⟨gb185, 0, none⟩) (by first | (rw [add_block]; exact hn186_0) | (show (Addr.add _ _).block ≠ _; rw [add_block]; exact hn186_0) | exact hn186_0) (.slice (some ad186) t179.length co23)).trans hx186_1; replace hx186_2 := (cell_far (p := ⟨gb185, 0, none⟩) (by first | (rw [add_block]; exact hn186_0) | (show (Addr.add _ _).block ≠ _; rw [add_block]; exact hn186_0) | exact hn186_0) (.slice (some ad186) t179.length co23)).trans hx186_2; replace hx186_0 := (cell_far (p := ⟨gb185, 1, none⟩) (by first | (rw [add_block]; exact hn186_1) | (show (Addr.add _ _).block ≠ _; rw [add_block]; exact hn186_1) | exact hn186_1) (.string t182)).trans hx186_0; replace hx186_1 := (cell_far (p := ⟨gb185, 1, none⟩) (by first | (rw [add_block]; exact hn186_1) | (show (Addr.add _ _).block ≠ _; rw [add_block]; exact hn186_1) | exact hn186_1) (.string t182)).trans hx186_1; replace hx186_2 := (cell_far (p := ⟨gb185, 1, none⟩) (by first | (rw [add_block]; exact hn186_1) | (show (Addr.add _ _).block ≠ _; rw [add_block]; exact hn186_1) | exact hn186_1) (.string t182)).trans hx186_2; replace hx186_0 := (cell_far (p := ⟨gb185, 2, none⟩) (by first | (rw [add_block]; exact hn186_2) | (show (Addr.add _ _).block ≠ _; rw [add_block]; exact hn186_2) | exact hn186_2) (.bool t183)).trans hx186_0; replace hx186_1 := (cell_far (p := ⟨gb185, 2, none⟩) (by first | (rw [add_block]; exact hn186_2) | (show (Addr.add _ _).block ≠ _; rw [add_block]; exact hn186_2) | exact hn186_2) (.bool t183)).trans hx186_1; replace hx186_2 := (cell_far (p := ⟨gb185, 2, none⟩) (by first | (rw [add_block]; exact hn186_2) | (show (Addr.add _ _).block ≠ _; rw [add_block]; exact hn186_2) | exact hn186_2) (.bool t183)).trans hx186_2; clear hn186_0; clear hn186_1; clear hn186_2; replace p186 := eq_true p186; replace q186 := eq_true q186))
     go_ret
     exact ⟨by first | rfl | (simp [bneNil]; done) | (simp [errW_none, errW_some] <;> rfl) | (simp [*, errW_none, errW_some] <;> rfl), by repeat (first | (with_reducible first | exact HB.out | apply below_alloc | apply pw_below_drewN | apply below_drew1 | refine below_set ?_ GE185.out) | exact HB.out)⟩
   ·rw [if_neg c4] at H
    exact absurd H (by simp)
  ·rw [if_neg c3] at H
   have c3b0 : ((t179.length : Int) == 2) = false := beq_eq_false_iff_ne.mpr c3
   have c3b1 : ((t179.length : Int) != 2) = true := bne_iff_ne.mpr c3
   obtain rfl := Option.some.inj H
   go_enter Tryd.func13, Tryd.ntmps13
   go_wp2_with (first | ((with_reducible refine gate_callee (f := 9) rfl ?_); refine goesL_ (some 4) rfl rfl Tryd.func9 (by kernel_rfl) rfl #[.string (⟨#[84, 111, 58, 32, 97, 13, 10, 98, 58, 32, 32, 99, 44, 13, 10, 32, 100, 13, 10, 13, 10, 120, 13, 10]⟩ : ByteArray)] rfl ml ?_; (with_reducible refine (head_Parse.calls k (⟨#[84, 111, 58, 32, 97, 13, 10, 98, 58, 32, 32, 99, 44, 13, 10, 32, 100, 13, 10, 13, 10, 120, 13, 10]⟩ : ByteArray) t179 t182 t183 t184 _ ?side1 A1.out).mono ?_); (case side1 => exact Glob.below HG.out bl); rintro e w25 ⟨v180, rfl, ho0, hb⟩; refine ⟨_, rfl, ?_⟩; have n0_ := Aside0.mk (Kd.R_lower ho0 (below_size bl)); have n1_ := Aside0.mk (below_step bl hb); clear HB; have HO181 := n0_; have HB := n1_; clear n0_ n1_; (try clear hb); (try clear hb2); (try clear hk); (try clear hi); (try clear ho0)) | ((with_reducible refine gate_dst (N := 1) rfl ?_); (try (refine gate_guard (by rfl) ?_; dsimp only)); refine box_event ?hg (N := 1) ?hd (cs := #[.slice none 0 0, .string (⟨#[]⟩ : ByteArray), .bool false]) (t := 24) ?hr ?_; (case hd => rfl); (case hg => rfl); (case hr => first | (go_simp; done) | (go_simp; rfl)); intro gb185 hg w26 hbox hb; have n0_ := Aside0.mk (Kd.R_below (kr HO181.out) hb); have n1_ := Aside0.mk (below_step bl hb); have n2_ := Aside0.mk (hbox); have n3_ := Aside0.mk ((by rw [hg]; exact (below_size bl) : w.heap.size ≤ gb185)); have n4_ := Aside0.mk ((by rw [hg]; exact (below_size bl) : w.heap.size ≤ gb185)); clear HO181; clear HB; have HO181 := n0_; have HB := n1_; have BK185 := n2_; have GW185 := n3_; have GE185 := n4_; clear n0_ n1_ n2_ n3_ n4_; clear hb hbox hg; obtain ⟨Ao27, co27, eo27⟩ := Kd.R_slice HO181.out; subst eo27; have hcz28_0 : w26.cell? ⟨gb185, 0, none⟩ = some (.slice none 0 0) := (blk_cell BK185.out 0).trans rfl; have hcz28_1 : w26.cell? ⟨gb185, 1, none⟩ = some (.string (⟨#[]⟩ : ByteArray)) := (blk_cell BK185.out 1).trans rfl; have hcz28_2 : w26.cell? ⟨gb185, 2, none⟩ = some (.bool false) := (blk_cell BK185.out 2).trans rfl; have hfz28_0 := blk_frozen BK185.out 0; have hfz28_1 := blk_frozen BK185.out 1; have hfz28_2 := blk_frozen BK185.out 2))
   go_ret
   exact ⟨by first | rfl | (simp [bneNil]; done) | (simp [errW_none, errW_some] <;> rfl) | (simp [*, errW_none, errW_some] <;> rfl), by repeat (first | (with_reducible first | exact HB.out | apply below_alloc | apply pw_below_drewN | apply below_drew1 | refine below_set ?_ GE185.out) | exact HB.out)⟩
 ·rw [if_neg c2] at H
  have c2b0 : (t184 == 0) = false := beq_eq_false_iff_ne.mpr c2
  have c2b1 : (t184 != 0) = true := bne_iff_ne.mpr c2
  obtain rfl := Option.some.inj H
  go_enter Tryd.func13, Tryd.ntmps13
  go_wp2_with (first | ((with_reducible refine gate_callee (f := 9) rfl ?_); refine goesL_ (some 4) rfl rfl Tryd.func9 (by kernel_rfl) rfl #[.string (⟨#[84, 111, 58, 32, 97, 13, 10, 98, 58, 32, 32, 99, 44, 13, 10, 32, 100, 13, 10, 13, 10, 120, 13, 10]⟩ : ByteArray)] rfl ml ?_; (with_reducible refine (head_Parse.calls k (⟨#[84, 111, 58, 32, 97, 13, 10, 98, 58, 32, 32, 99, 44, 13, 10, 32, 100, 13, 10, 13, 10, 120, 13, 10]⟩ : ByteArray) t179 t182 t183 t184 _ ?side1 A1.out).mono ?_); (case side1 => exact Glob.below HG.out bl); rintro e w29 ⟨v180, rfl, ho0, hb⟩; refine ⟨_, rfl, ?_⟩; have n0_ := Aside0.mk (Kd.R_lower ho0 (below_size bl)); have n1_ := Aside0.mk (below_step bl hb); clear HB; have HO181 := n0_; have HB := n1_; clear n0_ n1_; (try clear hb); (try clear hb2); (try clear hk); (try clear hi); (try clear ho0)) | ((with_reducible refine gate_dst (N := 1) rfl ?_); (try (refine gate_guard (by rfl) ?_; dsimp only)); refine box_event ?hg (N := 1) ?hd (cs := #[.slice none 0 0, .string (⟨#[]⟩ : ByteArray), .bool false]) (t := 24) ?hr ?_; (case hd => rfl); (case hg => rfl); (case hr => first | (go_simp; done) | (go_simp; rfl)); intro gb185 hg w30 hbox hb; have n0_ := Aside0.mk (Kd.R_below (kr HO181.out) hb); have n1_ := Aside0.mk (below_step bl hb); have n2_ := Aside0.mk (hbox); have n3_ := Aside0.mk ((by rw [hg]; exact (below_size bl) : w.heap.size ≤ gb185)); have n4_ := Aside0.mk ((by rw [hg]; exact (below_size bl) : w.heap.size ≤ gb185)); clear HO181; clear HB; have HO181 := n0_; have HB := n1_; have BK185 := n2_; have GW185 := n3_; have GE185 := n4_; clear n0_ n1_ n2_ n3_ n4_; clear hb hbox hg; obtain ⟨Ao31, co31, eo31⟩ := Kd.R_slice HO181.out; subst eo31; have hcz32_0 : w30.cell? ⟨gb185, 0, none⟩ = some (.slice none 0 0) := (blk_cell BK185.out 0).trans rfl; have hcz32_1 : w30.cell? ⟨gb185, 1, none⟩ = some (.string (⟨#[]⟩ : ByteArray)) := (blk_cell BK185.out 1).trans rfl; have hcz32_2 : w30.cell? ⟨gb185, 2, none⟩ = some (.bool false) := (blk_cell BK185.out 2).trans rfl; have hfz32_0 := blk_frozen BK185.out 0; have hfz32_1 := blk_frozen BK185.out 1; have hfz32_2 := blk_frozen BK185.out 2))
  go_ret
  exact ⟨by first | rfl | (simp [bneNil]; done) | (simp [errW_none, errW_some] <;> rfl) | (simp [*, errW_none, errW_some] <;> rfl), by repeat (first | (with_reducible first | exact HB.out | apply below_alloc | apply pw_below_drewN | apply below_drew1 | refine below_set ?_ GE185.out) | exact HB.out)⟩

/-! ### strings_HasSuffix: function 16 -/
def strings_HasSuffix.f (a0 : ByteArray) (a1 : ByteArray) : Option (Bool) := (stringslite_HasSuffix.f a0 a1).bind fun t188 => (some t188)
set_option maxHeartbeats 8000000 in
set_option maxRecDepth 100000 in
theorem strings_HasSuffix.calls (a0 : ByteArray) (a1 : ByteArray) (r : Bool) (w : World) (h : strings_HasSuffix.f a0 a1 = some r) :
    Calls Tryd.prog 16 #[.string a0, .string a1] w fun e w' => e = .returned (.bool r) ∧ Drawn0 w w' := by
  have H : ((stringslite_HasSuffix.f a0 a1).bind fun t188 => (some t188)) = some r := h
  clear h
  replace H := Option.bind_eq_some_iff.mp H
  obtain ⟨t188, A30, H⟩ := H
  replace H : (some t188) = some r := H
  have A3 := Aside0.mk A30
  clear A30
  obtain rfl := Option.some.inj H
  go_enter Tryd.func16, Tryd.ntmps16
  go_wp2_with (first | ((with_reducible refine gate_callee (f := 56) rfl ?_); refine goesL_ (some 7) rfl rfl Tryd.func56 (by kernel_rfl) rfl #[.string a0, .string a1] rfl (by (try simp only [List.map_toArray, List.map_cons, List.map_nil]); first | done | rfl | (simp only [List.length_drop, List.length_take]; rfl)) ?_; (with_reducible refine (stringslite_HasSuffix.calls a0 a1 t188 _ A3.out).mono ?_); rintro e w' ⟨rfl, ⟨nd, rfl⟩⟩; refine ⟨_, rfl, ?_⟩))
  go_ret
  exact ⟨by first | rfl | (simp [bneNil]; done) | (simp; done) | (simp [*]; done), by repeat (first | exact Drawn0.refl _ | apply Drawn0.step)⟩

/-! ### head_Message_Text: function 25 (by hand) -/
def headPre (l0 : List S41) (k : Nat) : List UInt8 := ((l0.take k).map (·.f2.data.toList)).flatten
def headText (l0 : List S41) (a1 : ByteArray) (a2 : Bool) : List UInt8 := headPre l0 l0.length ++ (if a2 = true then [] else 13 :: 10 :: a1.data.toList)
theorem headPre_succ (l0 : List S41) (k : Nat) (h : k < l0.length) : headPre l0 (k + 1) = headPre l0 k ++ (rd_T41 l0 (k : Int)).f2.data.toList := by
  unfold headPre rd_T41
  rw [List.take_succ_eq_append_getElem h, List.map_append, List.flatten_append, Int.toNat_natCast, List.getD_eq_getElem?_getD, List.getElem?_eq_getElem h]
  simp
theorem headPre_le (l0 : List S41) (k : Nat) : (headPre l0 k).length ≤ (headPre l0 l0.length).length := by
  unfold headPre
  rw [List.take_length]
  conv => rhs; rw [← List.take_append_drop k l0]
  rw [List.map_append, List.flatten_append, List.length_append]
  omega
def head_Message_Text.f (l0 : List S41) (a1 : ByteArray) (a2 : Bool) : Option ByteArray := if (headText l0 a1 a2).length ≤ 140737488355328 ∧ a1.size ≤ 140737488355328 ∧ l0.length ≤ 140737488355328 then some ⟨(headText l0 a1 a2).toArray⟩ else none
theorem text_next {l0 : List S41} {B b k : Nat} {x : Int} {w : World} (hx : x = (k : Nat)) (hk : k < l0.length) (h : Lib.BuilderAtF 96 5 B b (.pointer (some ⟨b, 0, none⟩)) (Lib.byteCells (headPre l0 k) ++ Lib.strCells (rd_T41 l0 x).f2) w) :
    Lib.IsBuilderF 96 5 B b (Lib.byteCells (headPre l0 (k + 1))) w := by
  subst hx
  rw [headPre_succ l0 k hk, Lib.byteCells_append, ← Lib.strCells_eq]
  exact .inr h
set_option maxHeartbeats 1000000 in
set_option maxRecDepth 100000 in
theorem head_Message_Text.calls (A0 : Option Addr) (c0 : Nat) (l0 : List S41) (a1 : ByteArray) (a2 : Bool) (r : ByteArray) (w : World) (hr0 : Kd.C k41 w A0 l0.length l0) (hc0 : l0.length ≤ c0) (h : head_Message_Text.f l0 a1 a2 = some r) :
    Calls Tryd.prog 25 #[.agg #[.slice A0 l0.length c0, .string a1, .bool a2]] w fun e w' => e = .returned (.string r) ∧ Below w.heap.size w w' := by
  unfold head_Message_Text.f at h
  by_cases hsz : (headText l0 a1 a2).length ≤ 140737488355328 ∧ a1.size ≤ 140737488355328 ∧ l0.length ≤ 140737488355328
  · rw [if_pos hsz] at h
    obtain rfl := Option.some.inj h
    clear h
    obtain ⟨hs1, hs2, hs3⟩ := hsz
    have HS := Aside0.mk hs1
    clear hs1
    have HR := Aside0.mk hr0
    clear hr0
    have HC := Aside0.mk hc0
    clear hc0
    go_enter Tryd.func25, Tryd.ntmps25
    go_wp2
    obtain ⟨W, hW⟩ : ∃ W, W = (w.alloc (Obj.cells #[Value.slice A0 l0.length c0, Value.string a1, Value.bool a2] 24)).alloc (Obj.cells #[Value.pointer none, Value.slice none 0 0] 96) := ⟨_, rfl⟩
    obtain ⟨g, hg⟩ : ∃ g, g = w.heap.size := ⟨_, rfl⟩
    have HI : Aside0 (Lib.IsBuilderF 96 5 (g + 1) (g + 1) (Lib.byteCells (headPre l0 0)) W) := ⟨by
      have := Lib.IsBuilderF.of (Lib.fresh_isBuilder 96 5 (w.alloc (Obj.cells #[Value.slice A0 l0.length c0, Value.string a1, Value.bool a2] 24)))
      rw [hW, hg]
      simpa [headPre, Lib.byteCells] using this⟩
    have HG : Aside0 (W.heap[g]? = some (.cells #[Value.slice A0 l0.length c0, Value.string a1, Value.bool a2] 24 (0, 0))) := ⟨by
      rw [hW, hg]; exact blk_alloc (blk_new _ _) _⟩
    have HB : Aside0 (Below w.heap.size w W) := ⟨by
      rw [hW]; exact below_alloc (below_alloc (Below.refl _ _) _) _⟩
    have HZ : Aside0 (g + 1 ≤ W.heap.size) := ⟨by rw [hW, hg]; simp⟩
    have Hg := Aside0.mk hg
    rw [← hW, ← hg]
    clear hW hg
    go_loopw [9] (fun v9 w' => ∃ (x : Int) (k : Nat), v9 = .int .i64 x ∧ Aside0 (x = (k : Nat)) ∧ 0 ≤ x ∧ x ≤ l0.length ∧ Aside0 (Lib.IsBuilderF 96 5 (g + 1) (g + 1) (Lib.byteCells (headPre l0 k)) w') ∧ Aside0 (w'.heap[g]? = some (.cells #[Value.slice A0 l0.length c0, Value.string a1, Value.bool a2] 24 (0, 0))) ∧ Aside0 (Below w.heap.size w w') ∧ Aside0 (g + 1 ≤ w'.heap.size)) (fun v9 _ => l0.length - (intOf v9).toNat)
    case atStart => exact ⟨0, 0, rfl, ⟨rfl⟩, Int.le_refl _, by omega, HI, HG, HB, HZ⟩
    case round =>
      clear HI HG HB HZ
      obtain ⟨x, k, rfl, Hx, hx0, hx1, HI, HG, HB, HZ⟩ := hrel
      by_cases hlt : x < l0.length
      · have hk : k < l0.length := by have := Hx.out; omega
        obtain ⟨ad, e, h0, h1, h2⟩ := at_T41 HR.out x hx0 hlt
        cases e
        replace h0 := pw_cell_below HB.out h0
        replace h1 := pw_cell_below HB.out h1
        replace h2 := pw_cell_below HB.out h2
        have HN : Aside0 ((Lib.byteCells (headPre l0 k)).length + (rd_T41 l0 x).f2.size ≤ 140737488355328) := ⟨by
          have a := headPre_succ l0 k hk
          have b := headPre_le l0 (k + 1)
          have c := HS.out
          unfold headText at c
          rw [a] at b
          have := Hx.out
          subst this
          rw [List.length_append] at b c
          rw [show (rd_T41 l0 ↑k).f2.size = (rd_T41 l0 ↑k).f2.data.toList.length from (data_length _).symm]
          simp only [Lib.byteCells, List.length_map]
          omega⟩
        have hd : decide (x < (l0.length : Int)) = true := decide_eq_true hlt
        go_wp2_with (go_at_call 60; (with_reducible refine (Tryd.Builder_WriteString_f (g + 1) (g + 1) (Lib.byteCells (headPre l0 k)) _ _ (HI.out.alloc _) HN.out (by have := HZ.out; simp; omega)).mono ?_); rintro e2 w2 ⟨rfl, hI2, hb2⟩)
        exact ⟨⟨x + 1, k + 1, rfl, ⟨by have := Hx.out; omega⟩, by omega, by omega, ⟨text_next Hx.out hk hI2⟩, ⟨(hb2.block g (by omega)).trans (blk_alloc HG.out _)⟩, ⟨(below_alloc HB.out _).trans (hb2.mono (by have := Hg.out; omega))⟩, ⟨Nat.le_trans (by have := HZ.out; simp; omega) hb2.size⟩⟩, by simp [intOf]; omega⟩
      · have hx : x = l0.length := by omega
        subst hx
        have hk : k = l0.length := by have := Hx.out; omega
        subst hk
        clear Hx hx0 hx1
        have hd : decide ((l0.length : Int) < (l0.length : Int)) = false := by simp
        have hc0 := (blk_cell HG.out 0).trans rfl
        have hc1 := (blk_cell HG.out 1).trans rfl
        have hc2 := (blk_cell HG.out 2).trans rfl
        cases a2 with
        | true =>
          have HT : Aside0 (headText l0 a1 true = headPre l0 l0.length) := ⟨by simp [headText]⟩
          go_wp2_with (go_at_call 61; (with_reducible refine (Tryd.Builder_String_any_f (g + 1) (g + 1) (headPre l0 l0.length) _ HI.out HZ.out).mono ?_); rintro e2 w2 ⟨rfl, hI2, hb2⟩)
          go_ret
          exact ⟨by rw [HT.out]; rfl, HB.out.trans (hb2.mono (by have := Hg.out; omega))⟩
        | false =>
          have HT : Aside0 (headText l0 a1 false = headPre l0 l0.length ++ 13 :: 10 :: a1.data.toList) := ⟨by simp [headText]⟩
          have HN : Aside0 ((Lib.byteCells (headPre l0 l0.length)).length + ((⟨#[13, 10]⟩ : ByteArray) ++ a1).size ≤ 140737488355328) := ⟨by
            have c := HS.out
            rw [HT.out, List.length_append, List.length_cons, List.length_cons, data_length] at c
            rw [ByteArray.size_append, Lib.byteCells, List.length_map]
            have : (⟨#[13, 10]⟩ : ByteArray).size = 2 := rfl
            omega⟩
          go_wp2_with (go_at_call 60; (with_reducible refine (Tryd.Builder_WriteString_f (g + 1) (g + 1) (Lib.byteCells (headPre l0 l0.length)) _ _ HI.out HN.out HZ.out).mono ?_); rintro e2 w2 ⟨rfl, hI2, hb2⟩)
          have HI2 : Aside0 (Lib.IsBuilderF 96 5 (g + 1) (g + 1) (Lib.byteCells (headText l0 a1 false)) w2) := ⟨by
            rw [HT.out, Lib.byteCells_append]
            have e : Lib.strCells ((⟨#[13, 10]⟩ : ByteArray) ++ a1) = Lib.byteCells (13 :: 10 :: a1.data.toList) := by
              rw [Lib.strCells_eq, ByteArray.data_append, Array.toList_append]; rfl
            rw [e] at hI2
            exact .inr hI2⟩
          clear hI2
          have HZ2 : Aside0 (g + 1 ≤ w2.heap.size) := ⟨Nat.le_trans HZ.out hb2.size⟩
          go_wp2_with (go_at_call 61; (with_reducible refine (Tryd.Builder_String_any_f (g + 1) (g + 1) (headText l0 a1 false) _ HI2.out HZ2.out).mono ?_); rintro e3 w3 ⟨rfl, hI3, hb3⟩)
          go_ret
          exact ⟨rfl, HB.out.trans ((hb2.trans hb3).mono (by have := Hg.out; omega))⟩
  · rw [if_neg hsz] at h; cases h


/-! ### slices_Equal_head_Field_head_Field: function 37 -/
def slices_Equal_head_Field_head_Field.l0 : Nat → List (S41) → List (S41) → Int → Int → Option (Bool)
  | 0, _, _, _, _ => none
  | k + 1, x0, x1, x12, x13 => if x13 < x12 then (if 0 ≤ x13 then (if x13 < (x0.length : Int) then (if x13 < (x1.length : Int) then (if (!((((rd_T41 x0 x13).f0).toList) == (((rd_T41 x1 x13).f0).toList)) || (!((((rd_T41 x0 x13).f1).toList) == (((rd_T41 x1 x13).f1).toList)) || (!((((rd_T41 x0 x13).f2).toList) == (((rd_T41 x1 x13).f2).toList))))) = true then (some false) else (slices_Equal_head_Field_head_Field.l0 k x0 x1 x12 (wrap64 (x13 + 1)))) else (none)) else (none)) else (none)) else (some true)
def slices_Equal_head_Field_head_Field.f (k : Nat) (l0 : List (S41)) (l1 : List (S41)) : Option (Bool) := if (l0.length : Int) = (l1.length : Int) then (slices_Equal_head_Field_head_Field.l0 k l0 l1 (l0.length : Int) 0) else (some false)
theorem slices_Equal_head_Field_head_Field.mono_l : ∀ k, (∀ y0 y1 y2 y3, LeO (slices_Equal_head_Field_head_Field.l0 k y0 y1 y2 y3) (slices_Equal_head_Field_head_Field.l0 (k + 1) y0 y1 y2 y3))
  | 0 => fun _ _ _ _ r h => by simp [slices_Equal_head_Field_head_Field.l0] at h
  | k + 1 => by
    have ih0 := slices_Equal_head_Field_head_Field.mono_l k
    · intro y0 y1 y2 y3
      unfold slices_Equal_head_Field_head_Field.l0
      repeat' first
      | (with_reducible exact ih0 _ _ _ _)
      | (with_reducible exact LeO.refl _)
      | (with_reducible exact LeO.none _)
      | (with_reducible refine LeO.ite ?_ ?_)
      | (with_reducible refine LeO.bind ?_ (fun _ => ?_))
      | exact ih0 _ _ _ _
      | exact LeO.none _
      | refine LeO.ite ?_ ?_
      | refine LeO.bind ?_ (fun _ => ?_)
theorem slices_Equal_head_Field_head_Field.mono : ∀ a0 a1 k, LeO (slices_Equal_head_Field_head_Field.f k a0 a1) (slices_Equal_head_Field_head_Field.f (k + 1) a0 a1) := by
  intro a0 a1 k
  have ih0 := slices_Equal_head_Field_head_Field.mono_l k
  unfold slices_Equal_head_Field_head_Field.f
  repeat' first
      | (with_reducible exact ih0 _ _ _ _)
      | (with_reducible exact LeO.refl _)
      | (with_reducible exact LeO.none _)
      | (with_reducible refine LeO.ite ?_ ?_)
      | (with_reducible refine LeO.bind ?_ (fun _ => ?_))
      | exact ih0 _ _ _ _
      | exact LeO.none _
      | refine LeO.ite ?_ ?_
      | refine LeO.bind ?_ (fun _ => ?_)
set_option maxHeartbeats 8000000 in
set_option maxRecDepth 100000 in
theorem slices_Equal_head_Field_head_Field.calls (k : Nat) (A0 : Option Addr) (c0 : Nat) (l0 : List (S41)) (A1 : Option Addr) (c1 : Nat) (l1 : List (S41)) (r : Bool) (w : World) (hr0 : Kd.C k41 w A0 l0.length l0) (hc0 : l0.length ≤ c0) (hr1 : Kd.C k41 w A1 l1.length l1) (hc1 : l1.length ≤ c1) (h : slices_Equal_head_Field_head_Field.f k l0 l1 = some r) :
    Calls Tryd.prog 37 #[.slice A0 l0.length c0, .slice A1 l1.length c1] w fun e w' => e = .returned (.bool r) ∧ Drawn0 w w' := by
  have hu41 := Tryd.underlying41
  have HR0 := Aside0.mk hr0
  have HC0 := Aside0.mk hc0
  clear hr0 hc0
  have HR1 := Aside0.mk hr1
  have HC1 := Aside0.mk hc1
  clear hr1 hc1
  have H : (if (l0.length : Int) = (l1.length : Int) then (slices_Equal_head_Field_head_Field.l0 k l0 l1 (l0.length : Int) 0) else (some false)) = some r := h
  clear h
  by_cases c3 : (l0.length : Int) = (l1.length : Int)
  · rw [if_pos c3] at H
    have c3b0 : ((l0.length : Int) == (l1.length : Int)) = true := beq_iff_eq.mpr c3
    have c3b1 : ((l0.length : Int) != (l1.length : Int)) = false := bne_eq_false_iff_eq.mpr c3
    have c3b2 : (l0.length == l1.length) = true := by first | simpa using c3 | (simp at c3 ⊢; omega)
    clear c3
    have H' := Aside0.mk H
    clear H
    go_enter Tryd.func37, Tryd.ntmps37
    go_wp2
    repeat (go_quiet (fail); try go_wp2)
    go_loopg [13] k (fun kq v13 w' => ∃ (x13_1 : Int), v13 = .int .i64 x13_1 ∧ Aside0 (slices_Equal_head_Field_head_Field.l0 kq l0 l1 (l0.length : Int) x13_1 = some r) ∧ Aside0 (kq ≤ k) ∧ Drawn0 w w')
    case atStart => exact ⟨(0), (by first | rfl | (simp; done) | (simp [*]; done)), H', ⟨Nat.le_refl _⟩, by repeat (first | exact Drawn0.refl _ | apply Drawn0.step)⟩
    case round =>
      clear H'
      try clear c1
      try clear p2
      try clear c3
      try clear c3b0
      try clear c3b1
      try clear c3b2
      obtain ⟨x13_1, rfl, HA, HK1, ⟨m1, rfl⟩⟩ := hrel
      cases gk with
      | zero => exact absurd HA.out (by simp [slices_Equal_head_Field_head_Field.l0])
      | succ k1 =>
        have H := HA.out
        clear HA
        simp only [slices_Equal_head_Field_head_Field.l0] at H
        by_cases c4 : x13_1 < (l0.length : Int)
        · rw [if_pos c4] at H
          have c4b0 : decide (x13_1 < (l0.length : Int)) = true := decide_eq_true c4
          clear c4
          by_cases c5 : 0 ≤ x13_1
          · rw [if_pos c5] at H
            have c5b0 : decide (0 ≤ x13_1) = true := decide_eq_true c5
            clear c5
            by_cases c6 : x13_1 < (l0.length : Int)
            · rw [if_pos c6] at H
              have c6b0 : decide (x13_1 < (l0.length : Int)) = true := decide_eq_true c6
              clear c6
              by_cases c7 : x13_1 < (l1.length : Int)
              · rw [if_pos c7] at H
                have c7b0 : decide (x13_1 < (l1.length : Int)) = true := decide_eq_true c7
                clear c7
                by_cases c8 : (!((((rd_T41 l0 x13_1).f0).toList) == (((rd_T41 l1 x13_1).f0).toList)) || (!((((rd_T41 l0 x13_1).f1).toList) == (((rd_T41 l1 x13_1).f1).toList)) || (!((((rd_T41 l0 x13_1).f2).toList) == (((rd_T41 l1 x13_1).f2).toList))))) = true
                · rw [if_pos c8] at H
                  have c8b0 : (!((((rd_T41 l0 x13_1).f0).toList) == (((rd_T41 l1 x13_1).f0).toList)) || (!((((rd_T41 l0 x13_1).f1).toList) == (((rd_T41 l1 x13_1).f1).toList)) || (!((((rd_T41 l0 x13_1).f2).toList) == (((rd_T41 l1 x13_1).f2).toList))))) = true := c8
                  clear c8
                  obtain rfl := Option.some.inj H
                  have p189 : 0 ≤ (x13_1 : Int) := of_decide_eq_true (by first | (with_reducible assumption) | assumption)
                  have q189 : x13_1 < (l0.length : Int) := of_decide_eq_true (by first | (with_reducible assumption) | assumption)
                  obtain ⟨ad189, e189, hx189_0, hx189_1, hx189_2⟩ := at_T41 HR0.out x13_1 p189 q189
                  cases e189
                  replace p189 := eq_true p189
                  replace q189 := eq_true q189
                  have p190 : 0 ≤ (x13_1 : Int) := of_decide_eq_true (by first | (with_reducible assumption) | assumption)
                  have q190 : x13_1 < (l1.length : Int) := of_decide_eq_true (by first | (with_reducible assumption) | assumption)
                  obtain ⟨ad190, e190, hx190_0, hx190_1, hx190_2⟩ := at_T41 HR1.out x13_1 p190 q190
                  cases e190
                  replace p190 := eq_true p190
                  replace q190 := eq_true q190
                  go_wp2
                  repeat (go_quiet (fail); try go_wp2)
                  go_ret
                  exact ⟨by first | rfl | (simp [bneNil]; done) | (simp; done) | (simp [*]; done), by repeat (first | exact Drawn0.refl _ | apply Drawn0.step)⟩
                · rw [if_neg c8] at H
                  have c8b0 : (!((((rd_T41 l0 x13_1).f0).toList) == (((rd_T41 l1 x13_1).f0).toList)) || (!((((rd_T41 l0 x13_1).f1).toList) == (((rd_T41 l1 x13_1).f1).toList)) || (!((((rd_T41 l0 x13_1).f2).toList) == (((rd_T41 l1 x13_1).f2).toList))))) = false := by simpa using c8
                  clear c8
                  have H' := Aside0.mk H
                  clear H
                  have p189 : 0 ≤ (x13_1 : Int) := of_decide_eq_true (by first | (with_reducible assumption) | assumption)
                  have q189 : x13_1 < (l0.length : Int) := of_decide_eq_true (by first | (with_reducible assumption) | assumption)
                  obtain ⟨ad189, e189, hx189_0, hx189_1, hx189_2⟩ := at_T41 HR0.out x13_1 p189 q189
                  cases e189
                  replace p189 := eq_true p189
                  replace q189 := eq_true q189
                  have p190 : 0 ≤ (x13_1 : Int) := of_decide_eq_true (by first | (with_reducible assumption) | assumption)
                  have q190 : x13_1 < (l1.length : Int) := of_decide_eq_true (by first | (with_reducible assumption) | assumption)
                  obtain ⟨ad190, e190, hx190_0, hx190_1, hx190_2⟩ := at_T41 HR1.out x13_1 p190 q190
                  cases e190
                  replace p190 := eq_true p190
                  replace q190 := eq_true q190
                  go_wp2
                  repeat (go_quiet (fail); try go_wp2)
                  go_roundg k1
                  case measure => have := HK1.out; omega
                  case rel => exact ⟨(wrap64 (x13_1 + 1)), (by first | rfl | (simp; done) | (simp [*]; done)), H', ⟨by have := HK1.out; omega⟩, by repeat (first | exact Drawn0.refl _ | apply Drawn0.step)⟩
              · rw [if_neg c7] at H
                exact absurd H (by simp)
            · rw [if_neg c6] at H
              exact absurd H (by simp)
          · rw [if_neg c5] at H
            exact absurd H (by simp)
        · rw [if_neg c4] at H
          have c4b0 : decide (x13_1 < (l0.length : Int)) = false := decide_eq_false c4
          clear c4
          obtain rfl := Option.some.inj H
          go_wp2
          repeat (go_quiet (fail); try go_wp2)
          go_ret
          exact ⟨by first | rfl | (simp [bneNil]; done) | (simp; done) | (simp [*]; done), by repeat (first | exact Drawn0.refl _ | apply Drawn0.step)⟩
  · rw [if_neg c3] at H
    have c3b0 : ((l0.length : Int) == (l1.length : Int)) = false := beq_eq_false_iff_ne.mpr c3
    have c3b1 : ((l0.length : Int) != (l1.length : Int)) = true := bne_iff_ne.mpr c3
    have c3b2 : (l0.length == l1.length) = false := by first | simpa using c3 | (simp at c3 ⊢; omega)
    obtain rfl := Option.some.inj H
    go_enter Tryd.func37, Tryd.ntmps37
    go_wp2
    repeat (go_quiet (fail); try go_wp2)
    go_ret
    exact ⟨by first | rfl | (simp [bneNil]; done) | (simp; done) | (simp [*]; done), by repeat (first | exact Drawn0.refl _ | apply Drawn0.step)⟩

/-! ### head_Message_May: function 23 -/
def head_Message_May.f (k : Nat) (l0_0 : List (S41)) (a0_1 : ByteArray) (a0_2 : Bool) : Option (Bool) := (head_Message_Text.f l0_0 a0_1 a0_2).bind fun t192 => ((head_Parse.f k t192).bind fun bt193 => (if bt193.2.2.2 = 0 then (if (bt193.2.2.1 == a0_2) = true then (if bt193.2.1.toList = a0_1.toList then ((slices_Equal_head_Field_head_Field.f k bt193.1 l0_0).bind fun t200 => (some t200)) else (some false)) else (some false)) else (some false)))
theorem head_Message_May.mono : ∀ a0 a1 a2 k, LeO (head_Message_May.f k a0 a1 a2) (head_Message_May.f (k + 1) a0 a1 a2) := by
 intro a0 a1 a2 k
 unfold head_Message_May.f
 repeat' first
   | (with_reducible exact head_Parse.mono _ _)
   | (with_reducible exact slices_Equal_head_Field_head_Field.mono _ _ _)
   | (with_reducible exact LeO.refl _)
   | (with_reducible exact LeO.none _)
   | (with_reducible refine LeO.ite ?_ ?_)
   | (with_reducible refine LeO.bind ?_ (fun _ => ?_))
   | exact head_Parse.mono _ _
   | exact slices_Equal_head_Field_head_Field.mono _ _ _
   | exact LeO.none _
   | refine LeO.ite ?_ ?_
   | refine LeO.bind ?_ (fun _ => ?_)
set_option maxHeartbeats 8000000 in
set_option maxRecDepth 100000 in
theorem head_Message_May.calls (k : Nat) (A0_0 : Option Addr) (c0_0 : Nat) (l0_0 : List (S41)) (a0_1 : ByteArray) (a0_2 : Bool) (r : Bool) (w : World) (hr0_0 : Kd.C k41 w A0_0 l0_0.length l0_0) (hc0_0 : l0_0.length ≤ c0_0) (hG : Glob w) (h : head_Message_May.f k l0_0 a0_1 a0_2 = some r) :
  Calls Tryd.prog 23 #[.agg #[.slice A0_0 l0_0.length c0_0, .string a0_1, .bool a0_2]] w fun e w' => e = .returned (.bool r) ∧ Below w.heap.size w w' := by
 have hu24 := Tryd.underlying24
 have HR0_0 := Aside0.mk hr0_0
 have HC0_0 := Aside0.mk hc0_0
 clear hr0_0 hc0_0
 have HB := Aside0.mk (Below.refl w.heap.size w)
 have HG := Aside0.mk hG
 clear hG
 have H : ((head_Message_Text.f l0_0 a0_1 a0_2).bind fun t192 => ((head_Parse.f k t192).bind fun bt193 => (if bt193.2.2.2 = 0 then (if (bt193.2.2.1 == a0_2) = true then (if bt193.2.1.toList = a0_1.toList then ((slices_Equal_head_Field_head_Field.f k bt193.1 l0_0).bind fun t200 => (some t200)) else (some false)) else (some false)) else (some false)))) = some r := h
 clear h
 replace H := Option.bind_eq_some_iff.mp H
 obtain ⟨t192, A20, H⟩ := H
 replace H : ((head_Parse.f k t192).bind fun bt193 => (if bt193.2.2.2 = 0 then (if (bt193.2.2.1 == a0_2) = true then (if bt193.2.1.toList = a0_1.toList then ((slices_Equal_head_Field_head_Field.f k bt193.1 l0_0).bind fun t200 => (some t200)) else (some false)) else (some false)) else (some false))) = some r := H
 have A2 := Aside0.mk A20
 clear A20
 replace H := Option.bind_eq_some_iff.mp H
 obtain ⟨⟨t193, t196, t197, t198⟩, A30, H⟩ := H
 replace H : (if t198 = 0 then (if (t197 == a0_2) = true then (if t196.toList = a0_1.toList then ((slices_Equal_head_Field_head_Field.f k t193 l0_0).bind fun t200 => (some t200)) else (some false)) else (some false)) else (some false)) = some r := H
 have A3 := Aside0.mk A30
 clear A30
 by_cases c4 : t198 = 0
 ·rw [if_pos c4] at H
  have c4b0 : (t198 == 0) = true := beq_iff_eq.mpr c4
  have c4b1 : (t198 != 0) = false := bne_eq_false_iff_eq.mpr c4
  clear c4
  by_cases c5 : (t197 == a0_2) = true
  ·rw [if_pos c5] at H
   have c5b0 : (t197 == a0_2) = true := c5
   (try (have c5b1 : decide (t197 = a0_2) = true := by simpa using c5))
   (try (have c5b2 : (t197 == a0_2) = true := by simpa using c5))
   clear c5
   by_cases c6 : t196.toList = a0_1.toList
   ·rw [if_pos c6] at H
    have c6b0 : (t196.toList == a0_1.toList) = true := beq_iff_eq.mpr c6
    have c6b1 : (t196.toList != a0_1.toList) = false := bne_eq_false_iff_eq.mpr c6
    clear c6
    replace H := Option.bind_eq_some_iff.mp H
    obtain ⟨t200, A70, H⟩ := H
    replace H : (some t200) = some r := H
    have A7 := Aside0.mk A70
    clear A70
    obtain rfl := Option.some.inj H
    go_enter Tryd.func23, Tryd.ntmps23
    go_wp2_with (first | ((with_reducible refine gate_dst (N := 1) rfl ?_); refine box_event ?hg (N := 1) ?hd (cs := #[.slice A0_0 l0_0.length c0_0, .string a0_1, .bool a0_2]) (t := 24) ?hr ?_; (case hd => rfl); (case hg => rfl); (case hr => first | (go_simp; done) | (go_simp; rfl)); intro gb191 hg w8 hbox hb; have n0_ := Aside0.mk (below_step bl hb); have n1_ := Aside0.mk (hbox); have n2_ := Aside0.mk ((by rw [hg]; exact (below_size bl) : w.heap.size ≤ gb191)); have n3_ := Aside0.mk ((by rw [hg]; exact (below_size bl) : w.heap.size ≤ gb191)); clear HB; have HB := n0_; have BK191 := n1_; have GW191 := n2_; have GE191 := n3_; clear n0_ n1_ n2_ n3_; clear hb hbox hg; have hcz9_0 : w8.cell? ⟨gb191, 0, none⟩ = some (.slice A0_0 l0_0.length c0_0) := (blk_cell BK191.out 0).trans rfl; have hcz9_1 : w8.cell? ⟨gb191, 1, none⟩ = some (.string a0_1) := (blk_cell BK191.out 1).trans rfl; have hcz9_2 : w8.cell? ⟨gb191, 2, none⟩ = some (.bool a0_2) := (blk_cell BK191.out 2).trans rfl; have hfz9_0 := blk_frozen BK191.out 0; have hfz9_1 := blk_frozen BK191.out 1; have hfz9_2 := blk_frozen BK191.out 2) | ((with_reducible refine gate_callee (f := 25) rfl ?_); refine goesL_ (some 7) rfl rfl Tryd.func25 (by kernel_rfl) rfl #[.agg #[.slice A0_0 l0_0.length c0_0, .string a0_1, .bool a0_2]] rfl ml ?_; (with_reducible refine (head_Message_Text.calls _ _ l0_0 a0_1 a0_2 t192 _ ?side1 ?side2 A2.out).mono ?_); (case side1 => repeat (first | exact (Kd.C_below HR0_0.out HB.out) | (with_reducible refine Kd.C_alloc ?_ _) | (with_reducible refine Kd.C_drewN ?_ _) | (with_reducible refine Kd.C_drew ?_))); (case side2 => exact HC0_0.out); rintro e w10 ⟨rfl, hb⟩; refine ⟨_, rfl, ?_⟩; have n0_ := Aside0.mk (kb BK191.out hb); have n1_ := Aside0.mk (below_step bl hb); clear BK191; clear HB; have BK191 := n0_; have HB := n1_; clear n0_ n1_; (try clear hb); (try clear hb2); (try clear hk); (try clear hi)) | ((with_reducible refine gate_callee (f := 9) rfl ?_); refine goesL_ (some 8) rfl rfl Tryd.func9 (by kernel_rfl) rfl #[.string t192] rfl ml ?_; (with_reducible refine (head_Parse.calls k t192 t193 t196 t197 t198 _ ?side1 A3.out).mono ?_); (case side1 => exact Glob.below HG.out bl); rintro e w11 ⟨v194, rfl, ho0, hb⟩; refine ⟨_, rfl, ?_⟩; have n0_ := Aside0.mk (Kd.R_lower ho0 (below_size bl)); have n1_ := Aside0.mk (kb BK191.out hb); have n2_ := Aside0.mk (below_step bl hb); clear BK191; clear HB; have HO195 := n0_; have BK191 := n1_; have HB := n2_; clear n0_ n1_ n2_; (try clear hb); (try clear hb2); (try clear hk); (try clear hi); (try clear ho0)) | ((with_reducible refine gate_dst (N := 3) rfl ?_); refine box_event ?hg (N := 3) ?hd (cs := #[.slice none 0 0, .string (⟨#[]⟩ : ByteArray), .bool false]) (t := 24) ?hr ?_; (case hd => rfl); (case hg => rfl); (case hr => first | (go_simp; done) | (go_simp; rfl)); intro gb199 hg w12 hbox hb; have n0_ := Aside0.mk (Kd.R_below (kr HO195.out) hb); have n1_ := Aside0.mk (kb BK191.out hb); have n2_ := Aside0.mk (below_step bl hb); have n3_ := Aside0.mk (hbox); have n4_ := Aside0.mk ((by rw [hg]; exact (below_size bl) : w.heap.size ≤ gb199)); have n5_ := Aside0.mk ((by rw [hg]; exact (below_size bl) : w.heap.size ≤ gb199)); have n6_ := Aside0.mk ((by rw [hg]; exact Nat.ne_of_lt (blk_lt (bk BK191.out)) : gb191 ≠ gb199)); have n7_ := Aside0.mk ((by rw [hg]; exact Nat.ne_of_gt (blk_lt (bk BK191.out)) : gb199 ≠ gb191)); clear HO195; clear BK191; clear HB; have HO195 := n0_; have BK191 := n1_; have HB := n2_; have BK199 := n3_; have GW199 := n4_; have GE199 := n5_; have NB191_199 := n6_; have NB199_191 := n7_; clear n0_ n1_ n2_ n3_ n4_ n5_ n6_ n7_; clear hb hbox hg; obtain ⟨Ao13, co13, eo13⟩ := Kd.R_slice HO195.out; subst eo13; have hnb14 := NB199_191.out; have hnc14 := NB191_199.out; have hcz15_0 : w12.cell? ⟨gb199, 0, none⟩ = some (.slice none 0 0) := (blk_cell BK199.out 0).trans rfl; have hcz15_1 : w12.cell? ⟨gb199, 1, none⟩ = some (.string (⟨#[]⟩ : ByteArray)) := (blk_cell BK199.out 1).trans rfl; have hcz15_2 : w12.cell? ⟨gb199, 2, none⟩ = some (.bool false) := (blk_cell BK199.out 2).trans rfl; have hfz15_0 := blk_frozen BK199.out 0; have hfz15_1 := blk_frozen BK199.out 1; have hfz15_2 := blk_frozen BK199.out 2; have hcz16_0 : w12.cell? ⟨gb191, 0, none⟩ = some (.slice A0_0 l0_0.length c0_0) := (blk_cell BK191.out 0).trans rfl; have hcz16_1 : w12.cell? ⟨gb191, 1, none⟩ = some (.string a0_1) := (blk_cell BK191.out 1).trans rfl; have hcz16_2 : w12.cell? ⟨gb191, 2, none⟩ = some (.bool a0_2) := (blk_cell BK191.out 2).trans rfl; have hfz16_0 := blk_frozen BK191.out 0; have hfz16_1 := blk_frozen BK191.out 1; have hfz16_2 := blk_frozen BK191.out 2) | (go_at_call 37; (with_reducible refine (slices_Equal_head_Field_head_Field.calls k _ _ t193 _ _ l0_0 t200 _ ?side1 ?side2 ?side3 ?side4 A7.out).mono ?_); (case side1 => refine (Kd.R_reads' (e := 41) (base := w.heap.size) (ok := fun k_ => True) (n := t193.length) (c := co13) ?_).2.2; exact (by (with_reducible repeat (first | apply Kd.R_alloc | apply Kd.R_drewN | apply Kd.R_drew)); exact (Kd.R_mono (Kd.R_far (p := ⟨gb199, 2, none⟩) (Kd.R_far (p := ⟨gb199, 1, none⟩) (Kd.R_far (p := ⟨gb199, 0, none⟩) (Kd.R_types HO195.out BK199.out (by decide)) (fun _ hk => hk.2) (.slice Ao13 t193.length co13)) (fun _ hk => hk.2) (.string t196)) (fun _ hk => hk.2) (.bool t197)) (fun _ h_ => h_.1)))); (case side2 => exact (Kd.R_reads' HO195.out).2.1); (case side3 => exact Kd.C_below HR0_0.out bl); (case side4 => exact HC0_0.out); rintro e w' ⟨rfl, ⟨nd, rfl⟩⟩))
    go_ret
    exact ⟨by first | rfl | (simp [bneNil]; done) | (simp [errW_none, errW_some] <;> rfl) | (simp [*, errW_none, errW_some] <;> rfl), by repeat (first | (with_reducible first | exact HB.out | apply below_alloc | apply pw_below_drewN | apply below_drew1 | refine below_set ?_ GE191.out | refine below_set ?_ GE199.out) | exact HB.out)⟩
   ·rw [if_neg c6] at H
    have c6b0 : (t196.toList == a0_1.toList) = false := beq_eq_false_iff_ne.mpr c6
    have c6b1 : (t196.toList != a0_1.toList) = true := bne_iff_ne.mpr c6
    obtain rfl := Option.some.inj H
    go_enter Tryd.func23, Tryd.ntmps23
    go_wp2_with (first | ((with_reducible refine gate_dst (N := 1) rfl ?_); refine box_event ?hg (N := 1) ?hd (cs := #[.slice A0_0 l0_0.length c0_0, .string a0_1, .bool a0_2]) (t := 24) ?hr ?_; (case hd => rfl); (case hg => rfl); (case hr => first | (go_simp; done) | (go_simp; rfl)); intro gb191 hg w17 hbox hb; have n0_ := Aside0.mk (below_step bl hb); have n1_ := Aside0.mk (hbox); have n2_ := Aside0.mk ((by rw [hg]; exact (below_size bl) : w.heap.size ≤ gb191)); have n3_ := Aside0.mk ((by rw [hg]; exact (below_size bl) : w.heap.size ≤ gb191)); clear HB; have HB := n0_; have BK191 := n1_; have GW191 := n2_; have GE191 := n3_; clear n0_ n1_ n2_ n3_; clear hb hbox hg; have hcz18_0 : w17.cell? ⟨gb191, 0, none⟩ = some (.slice A0_0 l0_0.length c0_0) := (blk_cell BK191.out 0).trans rfl; have hcz18_1 : w17.cell? ⟨gb191, 1, none⟩ = some (.string a0_1) := (blk_cell BK191.out 1).trans rfl; have hcz18_2 : w17.cell? ⟨gb191, 2, none⟩ = some (.bool a0_2) := (blk_cell BK191.out 2).trans rfl; have hfz18_0 := blk_frozen BK191.out 0; have hfz18_1 := blk_frozen BK191.out 1; have hfz18_2 := blk_frozen BK191.out 2) | ((with_reducible refine gate_callee (f := 25) rfl ?_); refine goesL_ (some 7) rfl rfl Tryd.func25 (by kernel_rfl) rfl #[.agg #[.slice A0_0 l0_0.length c0_0, .string a0_1, .bool a0_2]] rfl ml ?_; (with_reducible refine (head_Message_Text.calls _ _ l0_0 a0_1 a0_2 t192 _ ?side1 ?side2 A2.out).mono ?_); (case side1 => repeat (first | exact (Kd.C_below HR0_0.out HB.out) | (with_reducible refine Kd.C_alloc ?_ _) | (with_reducible refine Kd.C_drewN ?_ _) | (with_reducible refine Kd.C_drew ?_))); (case side2 => exact HC0_0.out); rintro e w19 ⟨rfl, hb⟩; refine ⟨_, rfl, ?_⟩; have n0_ := Aside0.mk (kb BK191.out hb); have n1_ := Aside0.mk (below_step bl hb); clear BK191; clear HB; have BK191 := n0_; have HB := n1_; clear n0_ n1_; (try clear hb); (try clear hb2); (try clear hk); (try clear hi)) | ((with_reducible refine gate_callee (f := 9) rfl ?_); refine goesL_ (some 8) rfl rfl Tryd.func9 (by kernel_rfl) rfl #[.string t192] rfl ml ?_; (with_reducible refine (head_Parse.calls k t192 t193 t196 t197 t198 _ ?side1 A3.out).mono ?_); (case side1 => exact Glob.below HG.out bl); rintro e w20 ⟨v194, rfl, ho0, hb⟩; refine ⟨_, rfl, ?_⟩; have n0_ := Aside0.mk (Kd.R_lower ho0 (below_size bl)); have n1_ := Aside0.mk (kb BK191.out hb); have n2_ := Aside0.mk (below_step bl hb); clear BK191; clear HB; have HO195 := n0_; have BK191 := n1_; have HB := n2_; clear n0_ n1_ n2_; (try clear hb); (try clear hb2); (try clear hk); (try clear hi); (try clear ho0)) | ((with_reducible refine gate_dst (N := 3) rfl ?_); refine box_event ?hg (N := 3) ?hd (cs := #[.slice none 0 0, .string (⟨#[]⟩ : ByteArray), .bool false]) (t := 24) ?hr ?_; (case hd => rfl); (case hg => rfl); (case hr => first | (go_simp; done) | (go_simp; rfl)); intro gb199 hg w21 hbox hb; have n0_ := Aside0.mk (Kd.R_below (kr HO195.out) hb); have n1_ := Aside0.mk (kb BK191.out hb); have n2_ := Aside0.mk (below_step bl hb); have n3_ := Aside0.mk (hbox); have n4_ := Aside0.mk ((by rw [hg]; exact (below_size bl) : w.heap.size ≤ gb199)); have n5_ := Aside0.mk ((by rw [hg]; exact (below_size bl) : w.heap.size ≤ gb199)); have n6_ := Aside0.mk ((by rw [hg]; exact Nat.ne_of_lt (blk_lt (bk BK191.out)) : gb191 ≠ gb199)); have n7_ := Aside0.mk ((by rw [hg]; exact Nat.ne_of_gt (blk_lt (bk BK191.out)) : gb199 ≠ gb191)); clear HO195; clear BK191; clear HB; have HO195 := n0_; have BK191 := n1_; have HB := n2_; have BK199 := n3_; have GW199 := n4_; have GE199 := n5_; have NB191_199 := n6_; have NB199_191 := n7_; clear n0_ n1_ n2_ n3_ n4_ n5_ n6_ n7_; clear hb hbox hg; obtain ⟨Ao22, co22, eo22⟩ := Kd.R_slice HO195.out; subst eo22; have hnb23 := NB199_191.out; have hnc23 := NB191_199.out; have hcz24_0 : w21.cell? ⟨gb199, 0, none⟩ = some (.slice none 0 0) := (blk_cell BK199.out 0).trans rfl; have hcz24_1 : w21.cell? ⟨gb199, 1, none⟩ = some (.string (⟨#[]⟩ : ByteArray)) := (blk_cell BK199.out 1).trans rfl; have hcz24_2 : w21.cell? ⟨gb199, 2, none⟩ = some (.bool false) := (blk_cell BK199.out 2).trans rfl; have hfz24_0 := blk_frozen BK199.out 0; have hfz24_1 := blk_frozen BK199.out 1; have hfz24_2 := blk_frozen BK199.out 2; have hcz25_0 : w21.cell? ⟨gb191, 0, none⟩ = some (.slice A0_0 l0_0.length c0_0) := (blk_cell BK191.out 0).trans rfl; have hcz25_1 : w21.cell? ⟨gb191, 1, none⟩ = some (.string a0_1) := (blk_cell BK191.out 1).trans rfl; have hcz25_2 : w21.cell? ⟨gb191, 2, none⟩ = some (.bool a0_2) := (blk_cell BK191.out 2).trans rfl; have hfz25_0 := blk_frozen BK191.out 0; have hfz25_1 := blk_frozen BK191.out 1; have hfz25_2 := blk_frozen BK191.out 2))
    go_ret
    exact ⟨by first | rfl | (simp [bneNil]; done) | (simp [errW_none, errW_some] <;> rfl) | (simp [*, errW_none, errW_some] <;> rfl), by repeat (first | (with_reducible first | exact HB.out | apply below_alloc | apply pw_below_drewN | apply below_drew1 | refine below_set ?_ GE191.out | refine below_set ?_ GE199.out) | exact HB.out)⟩
  ·rw [if_neg c5] at H
   have c5b0 : (t197 == a0_2) = false := by simpa using c5
   (try (have c5b1 : decide (t197 = a0_2) = false := by simpa using c5))
   (try (have c5b2 : (t197 == a0_2) = false := by simpa using c5))
   (try (have c5b3 : ¬ (t197 = a0_2) := by simpa using c5))
   clear c5
   obtain rfl := Option.some.inj H
   go_enter Tryd.func23, Tryd.ntmps23
   go_wp2_with (first | ((with_reducible refine gate_dst (N := 1) rfl ?_); refine box_event ?hg (N := 1) ?hd (cs := #[.slice A0_0 l0_0.length c0_0, .string a0_1, .bool a0_2]) (t := 24) ?hr ?_; (case hd => rfl); (case hg => rfl); (case hr => first | (go_simp; done) | (go_simp; rfl)); intro gb191 hg w26 hbox hb; have n0_ := Aside0.mk (below_step bl hb); have n1_ := Aside0.mk (hbox); have n2_ := Aside0.mk ((by rw [hg]; exact (below_size bl) : w.heap.size ≤ gb191)); have n3_ := Aside0.mk ((by rw [hg]; exact (below_size bl) : w.heap.size ≤ gb191)); clear HB; have HB := n0_; have BK191 := n1_; have GW191 := n2_; have GE191 := n3_; clear n0_ n1_ n2_ n3_; clear hb hbox hg; have hcz27_0 : w26.cell? ⟨gb191, 0, none⟩ = some (.slice A0_0 l0_0.length c0_0) := (blk_cell BK191.out 0).trans rfl; have hcz27_1 : w26.cell? ⟨gb191, 1, none⟩ = some (.string a0_1) := (blk_cell BK191.out 1).trans rfl; have hcz27_2 : w26.cell? ⟨gb191, 2, none⟩ = some (.bool a0_2) := (blk_cell BK191.out 2).trans rfl; have hfz27_0 := blk_frozen BK191.out 0; have hfz27_1 := blk_frozen BK191.out 1; have hfz27_2 := blk_frozen BK191.out 2) | ((with_reducible refine gate_callee (f := 25) rfl ?_); refine goesL_ (some 7) rfl rfl Tryd.func25 (by kernel_rfl) rfl #[.agg #[.slice A0_0 l0_0.length c0_0, .string a0_1, .bool a0_2]] rfl ml ?_; (with_reducible refine (head_Message_Text.calls _ _ l0_0 a0_1 a0_2 t192 _ ?side1 ?side2 A2.out).mono ?_); (case side1 => repeat (first | exact (Kd.C_below HR0_0.out HB.out) | (with_reducible refine Kd.C_alloc ?_ _) | (with_reducible refine Kd.C_drewN ?_ _) | (with_reducible refine Kd.C_drew ?_))); (case side2 => exact HC0_0.out); rintro e w28 ⟨rfl, hb⟩; refine ⟨_, rfl, ?_⟩; have n0_ := Aside0.mk (kb BK191.out hb); have n1_ := Aside0.mk (below_step bl hb); clear BK191; clear HB; have BK191 := n0_; have HB := n1_; clear n0_ n1_; (try clear hb); (try clear hb2); (try clear hk); (try clear hi)) | ((with_reducible refine gate_callee (f := 9) rfl ?_); refine goesL_ (some 8) rfl rfl Tryd.func9 (by kernel_rfl) rfl #[.string t192] rfl ml ?_; (with_reducible refine (head_Parse.calls k t192 t193 t196 t197 t198 _ ?side1 A3.out).mono ?_); (case side1 => exact Glob.below HG.out bl); rintro e w29 ⟨v194, rfl, ho0, hb⟩; refine ⟨_, rfl, ?_⟩; have n0_ := Aside0.mk (Kd.R_lower ho0 (below_size bl)); have n1_ := Aside0.mk (kb BK191.out hb); have n2_ := Aside0.mk (below_step bl hb); clear BK191; clear HB; have HO195 := n0_; have BK191 := n1_; have HB := n2_; clear n0_ n1_ n2_; (try clear hb); (try clear hb2); (try clear hk); (try clear hi); (try clear ho0)) | ((with_reducible refine gate_dst (N := 3) rfl ?_); refine box_event ?hg (N := 3) ?hd (cs := #[.slice none 0 0, .string (⟨#[]⟩ : ByteArray), .bool false]) (t := 24) ?hr ?_; (case hd => rfl); (case hg => rfl); (case hr => first | (go_simp; done) | (go_simp; rfl)); intro gb199 hg w30 hbox hb; have n0_ := Aside0.mk (Kd.R_below (kr HO195.out) hb); have n1_ := Aside0.mk (kb BK191.out hb); have n2_ := Aside0.mk (below_step bl hb); have n3_ := Aside0.mk (hbox); have n4_ := Aside0.mk ((by rw [hg]; exact (below_size bl) : w.heap.size ≤ gb199)); have n5_ := Aside0.mk ((by rw [hg]; exact (below_size bl) : w.heap.size ≤ gb199)); have n6_ := Aside0.mk ((by rw [hg]; exact Nat.ne_of_lt (blk_lt (bk BK191.out)) : gb191 ≠ gb199)); have n7_ := Aside0.mk ((by rw [hg]; exact Nat.ne_of_gt (blk_lt (bk BK191.out)) : gb199 ≠ gb191)); clear HO195; clear BK191; clear HB; have HO195 := n0_; have BK191 := n1_; have HB := n2_; have BK199 := n3_; have GW199 := n4_; have GE199 := n5_; have NB191_199 := n6_; have NB199_191 := n7_; clear n0_ n1_ n2_ n3_ n4_ n5_ n6_ n7_; clear hb hbox hg; obtain ⟨Ao31, co31, eo31⟩ := Kd.R_slice HO195.out; subst eo31; have hnb32 := NB199_191.out; have hnc32 := NB191_199.out; have hcz33_0 : w30.cell? ⟨gb199, 0, none⟩ = some (.slice none 0 0) := (blk_cell BK199.out 0).trans rfl; have hcz33_1 : w30.cell? ⟨gb199, 1, none⟩ = some (.string (⟨#[]⟩ : ByteArray)) := (blk_cell BK199.out 1).trans rfl; have hcz33_2 : w30.cell? ⟨gb199, 2, none⟩ = some (.bool false) := (blk_cell BK199.out 2).trans rfl; have hfz33_0 := blk_frozen BK199.out 0; have hfz33_1 := blk_frozen BK199.out 1; have hfz33_2 := blk_frozen BK199.out 2; have hcz34_0 : w30.cell? ⟨gb191, 0, none⟩ = some (.slice A0_0 l0_0.length c0_0) := (blk_cell BK191.out 0).trans rfl; have hcz34_1 : w30.cell? ⟨gb191, 1, none⟩ = some (.string a0_1) := (blk_cell BK191.out 1).trans rfl; have hcz34_2 : w30.cell? ⟨gb191, 2, none⟩ = some (.bool a0_2) := (blk_cell BK191.out 2).trans rfl; have hfz34_0 := blk_frozen BK191.out 0; have hfz34_1 := blk_frozen BK191.out 1; have hfz34_2 := blk_frozen BK191.out 2))
   go_ret
   exact ⟨by first | rfl | (simp [bneNil]; done) | (simp [errW_none, errW_some] <;> rfl) | (simp [*, errW_none, errW_some] <;> rfl), by repeat (first | (with_reducible first | exact HB.out | apply below_alloc | apply pw_below_drewN | apply below_drew1 | refine below_set ?_ GE191.out | refine below_set ?_ GE199.out) | exact HB.out)⟩
 ·rw [if_neg c4] at H
  have c4b0 : (t198 == 0) = false := beq_eq_false_iff_ne.mpr c4
  have c4b1 : (t198 != 0) = true := bne_iff_ne.mpr c4
  obtain rfl := Option.some.inj H
  go_enter Tryd.func23, Tryd.ntmps23
  go_wp2_with (first | ((with_reducible refine gate_dst (N := 1) rfl ?_); refine box_event ?hg (N := 1) ?hd (cs := #[.slice A0_0 l0_0.length c0_0, .string a0_1, .bool a0_2]) (t := 24) ?hr ?_; (case hd => rfl); (case hg => rfl); (case hr => first | (go_simp; done) | (go_simp; rfl)); intro gb191 hg w35 hbox hb; have n0_ := Aside0.mk (below_step bl hb); have n1_ := Aside0.mk (hbox); have n2_ := Aside0.mk ((by rw [hg]; exact (below_size bl) : w.heap.size ≤ gb191)); have n3_ := Aside0.mk ((by rw [hg]; exact (below_size bl) : w.heap.size ≤ gb191)); clear HB; have HB := n0_; have BK191 := n1_; have GW191 := n2_; have GE191 := n3_; clear n0_ n1_ n2_ n3_; clear hb hbox hg; have hcz36_0 : w35.cell? ⟨gb191, 0, none⟩ = some (.slice A0_0 l0_0.length c0_0) := (blk_cell BK191.out 0).trans rfl; have hcz36_1 : w35.cell? ⟨gb191, 1, none⟩ = some (.string a0_1) := (blk_cell BK191.out 1).trans rfl; have hcz36_2 : w35.cell? ⟨gb191, 2, none⟩ = some (.bool a0_2) := (blk_cell BK191.out 2).trans rfl; have hfz36_0 := blk_frozen BK191.out 0; have hfz36_1 := blk_frozen BK191.out 1; have hfz36_2 := blk_frozen BK191.out 2) | ((with_reducible refine gate_callee (f := 25) rfl ?_); refine goesL_ (some 7) rfl rfl Tryd.func25 (by kernel_rfl) rfl #[.agg #[.slice A0_0 l0_0.length c0_0, .string a0_1, .bool a0_2]] rfl ml ?_; (with_reducible refine (head_Message_Text.calls _ _ l0_0 a0_1 a0_2 t192 _ ?side1 ?side2 A2.out).mono ?_); (case side1 => repeat (first | exact (Kd.C_below HR0_0.out HB.out) | (with_reducible refine Kd.C_alloc ?_ _) | (with_reducible refine Kd.C_drewN ?_ _) | (with_reducible refine Kd.C_drew ?_))); (case side2 => exact HC0_0.out); rintro e w37 ⟨rfl, hb⟩; refine ⟨_, rfl, ?_⟩; have n0_ := Aside0.mk (kb BK191.out hb); have n1_ := Aside0.mk (below_step bl hb); clear BK191; clear HB; have BK191 := n0_; have HB := n1_; clear n0_ n1_; (try clear hb); (try clear hb2); (try clear hk); (try clear hi)) | ((with_reducible refine gate_callee (f := 9) rfl ?_); refine goesL_ (some 8) rfl rfl Tryd.func9 (by kernel_rfl) rfl #[.string t192] rfl ml ?_; (with_reducible refine (head_Parse.calls k t192 t193 t196 t197 t198 _ ?side1 A3.out).mono ?_); (case side1 => exact Glob.below HG.out bl); rintro e w38 ⟨v194, rfl, ho0, hb⟩; refine ⟨_, rfl, ?_⟩; have n0_ := Aside0.mk (Kd.R_lower ho0 (below_size bl)); have n1_ := Aside0.mk (kb BK191.out hb); have n2_ := Aside0.mk (below_step bl hb); clear BK191; clear HB; have HO195 := n0_; have BK191 := n1_; have HB := n2_; clear n0_ n1_ n2_; (try clear hb); (try clear hb2); (try clear hk); (try clear hi); (try clear ho0)) | ((with_reducible refine gate_dst (N := 3) rfl ?_); refine box_event ?hg (N := 3) ?hd (cs := #[.slice none 0 0, .string (⟨#[]⟩ : ByteArray), .bool false]) (t := 24) ?hr ?_; (case hd => rfl); (case hg => rfl); (case hr => first | (go_simp; done) | (go_simp; rfl)); intro gb199 hg w39 hbox hb; have n0_ := Aside0.mk (Kd.R_below (kr HO195.out) hb); have n1_ := Aside0.mk (kb BK191.out hb); have n2_ := Aside0.mk (below_step bl hb); have n3_ := Aside0.mk (hbox); have n4_ := Aside0.mk ((by rw [hg]; exact (below_size bl) : w.heap.size ≤ gb199)); have n5_ := Aside0.mk ((by rw [hg]; exact (below_size bl) : w.heap.size ≤ gb199)); have n6_ := Aside0.mk ((by rw [hg]; exact Nat.ne_of_lt (blk_lt (bk BK191.out)) : gb191 ≠ gb199)); have n7_ := Aside0.mk ((by rw [hg]; exact Nat.ne_of_gt (blk_lt (bk BK191.out)) : gb199 ≠ gb191)); clear HO195; clear BK191; clear HB; have HO195 := n0_; have BK191 := n1_; have HB := n2_; have BK199 := n3_; have GW199 := n4_; have GE199 := n5_; have NB191_199 := n6_; have NB199_191 := n7_; clear n0_ n1_ n2_ n3_ n4_ n5_ n6_ n7_; clear hb hbox hg; obtain ⟨Ao40, co40, eo40⟩ := Kd.R_slice HO195.out; subst eo40; have hnb41 := NB199_191.out; have hnc41 := NB191_199.out; have hcz42_0 : w39.cell? ⟨gb199, 0, none⟩ = some (.slice none 0 0) := (blk_cell BK199.out 0).trans rfl; have hcz42_1 : w39.cell? ⟨gb199, 1, none⟩ = some (.string (⟨#[]⟩ : ByteArray)) := (blk_cell BK199.out 1).trans rfl; have hcz42_2 : w39.cell? ⟨gb199, 2, none⟩ = some (.bool false) := (blk_cell BK199.out 2).trans rfl; have hfz42_0 := blk_frozen BK199.out 0; have hfz42_1 := blk_frozen BK199.out 1; have hfz42_2 := blk_frozen BK199.out 2))
  go_ret
  exact ⟨by first | rfl | (simp [bneNil]; done) | (simp [errW_none, errW_some] <;> rfl) | (simp [*, errW_none, errW_some] <;> rfl), by repeat (first | (with_reducible first | exact HB.out | apply below_alloc | apply pw_below_drewN | apply below_drew1 | refine below_set ?_ GE191.out | refine below_set ?_ GE199.out) | exact HB.out)⟩

/-! ### head_fold: function 48 -/
mutual
def head_fold.l0 : Nat → ByteArray → Int → Int → Option (Int)
 | 0, _, _, _ => none
 | k + 1, x0, x5, x6 => if x6 < (x0.size : Int) then (if 0 ≤ x6 then (if (bt x0 x6) = 32 then (if 0 ≤ (wrap64 (x6 - 1)) then (if (wrap64 (x6 - 1)) < (x0.size : Int) then (if (bt x0 (wrap64 (x6 - 1))) = 44 then (if x5 ≥ 0 then (head_fold.j1 k x0 x5 x6 (decide (x6 > 78))) else (head_fold.j1 k x0 x5 x6 false)) else (head_fold.j1 k x0 x5 x6 true)) else (none)) else (none)) else (head_fold.j1 k x0 x5 x6 true)) else (none)) else (some x5)
def head_fold.j1 : Nat → ByteArray → Int → Int → Bool → Option (Int)
 | 0, _, _, _, _ => none
 | k + 1, x0, x5, x6, x35 => if x35 = true then (head_fold.l0 k x0 x5 (wrap64 (x6 + 1))) else (if x6 > 78 then (some x6) else (head_fold.l0 k x0 x6 (wrap64 (x6 + 1))))
end
def head_fold.f (k : Nat) (a0 : ByteArray) (a1 : Int) : Option (Int) := if (a0.size : Int) ≤ 78 then (some (-1)) else (head_fold.l0 k a0 (-1) a1)
theorem head_fold.mono_l : ∀ k, (∀ y0 y1 y2, LeO (head_fold.l0 k y0 y1 y2) (head_fold.l0 (k + 1) y0 y1 y2)) ∧ (∀ y0 y1 y2 y3, LeO (head_fold.j1 k y0 y1 y2 y3) (head_fold.j1 (k + 1) y0 y1 y2 y3))
 | 0 => ⟨fun _ _ _ r h => by simp [head_fold.l0] at h, fun _ _ _ _ r h => by simp [head_fold.j1] at h⟩
 | k + 1 => by
  obtain ⟨ih0, ih1⟩ := head_fold.mono_l k
  refine ⟨?_, ?_⟩
  ·intro y0 y1 y2
   unfold head_fold.l0
   repeat' first
   | (with_reducible exact ih0 _ _ _)
   | (with_reducible exact ih1 _ _ _ _)
   | (with_reducible exact LeO.refl _)
   | (with_reducible exact LeO.none _)
   | (with_reducible refine LeO.ite ?_ ?_)
   | (with_reducible refine LeO.bind ?_ (fun _ => ?_))
   | exact ih0 _ _ _
   | exact ih1 _ _ _ _
   | exact LeO.none _
   | refine LeO.ite ?_ ?_
   | refine LeO.bind ?_ (fun _ => ?_)
  ·intro y0 y1 y2 y3
   unfold head_fold.j1
   repeat' first
   | (with_reducible exact ih0 _ _ _)
   | (with_reducible exact ih1 _ _ _ _)
   | (with_reducible exact LeO.refl _)
   | (with_reducible exact LeO.none _)
   | (with_reducible refine LeO.ite ?_ ?_)
   | (with_reducible refine LeO.bind ?_ (fun _ => ?_))
   | exact ih0 _ _ _
   | exact ih1 _ _ _ _
   | exact LeO.none _
   | refine LeO.ite ?_ ?_
   | refine LeO.bind ?_ (fun _ => ?_)
theorem head_fold.mono : ∀ a0 a1 k, LeO (head_fold.f k a0 a1) (head_fold.f (k + 1) a0 a1) := by
 intro a0 a1 k
 obtain ⟨ih0, ih1⟩ := head_fold.mono_l k
 unfold head_fold.f
 repeat' first
   | (with_reducible exact ih0 _ _ _)
   | (with_reducible exact ih1 _ _ _ _)
   | (with_reducible exact LeO.refl _)
   | (with_reducible exact LeO.none _)
   | (with_reducible refine LeO.ite ?_ ?_)
   | (with_reducible refine LeO.bind ?_ (fun _ => ?_))
   | exact ih0 _ _ _
   | exact ih1 _ _ _ _
   | exact LeO.none _
   | refine LeO.ite ?_ ?_
   | refine LeO.bind ?_ (fun _ => ?_)
set_option maxHeartbeats 8000000 in
set_option maxRecDepth 100000 in
theorem head_fold.calls (k : Nat) (a0 : ByteArray) (a1 : Int) (r : Int) (w : World) (h : head_fold.f k a0 a1 = some r) :
  Calls Tryd.prog 48 #[.string a0, .int .i64 a1] w fun e w' => e = .returned (.int .i64 r) ∧ Drawn0 w w' := by
 have H : (if (a0.size : Int) ≤ 78 then (some (-1)) else (head_fold.l0 k a0 (-1) a1)) = some r := h
 clear h
 by_cases c3 : (a0.size : Int) ≤ 78
 ·rw [if_pos c3] at H
  have c3b0 : decide ((a0.size : Int) ≤ 78) = true := decide_eq_true c3
  have c3b1 : decide (a0.size ≤ 78) = true := decide_eq_true (by omega)
  clear c3
  obtain rfl := Option.some.inj H
  go_enter Tryd.func48, Tryd.ntmps48
  go_wp2
  go_ret
  exact ⟨by first | rfl | (simp [bneNil]; done) | (simp; done) | (simp [*]; done), by repeat (first | exact Drawn0.refl _ | apply Drawn0.step)⟩
 ·rw [if_neg c3] at H
  have c3b0 : decide ((a0.size : Int) ≤ 78) = false := decide_eq_false c3
  have c3b1 : decide (a0.size ≤ 78) = false := decide_eq_false (by omega)
  clear c3
  have H' := Aside0.mk H
  clear H
  go_enter Tryd.func48, Tryd.ntmps48
  go_wp2
  go_loopg [5, 6] k (fun kq v5 v6 w' => ∃ (x5_1 : Int) (x6_1 : Int), v5 = .int .i64 x5_1 ∧ v6 = .int .i64 x6_1 ∧ Aside0 (head_fold.l0 kq a0 x5_1 x6_1 = some r) ∧ Aside0 (kq ≤ k) ∧ Drawn0 w w')
  case atStart => exact ⟨((-1)), (a1), (by first | rfl | (simp; done) | (simp [*]; done)), (by first | rfl | (simp; done) | (simp [*]; done)), H', ⟨Nat.le_refl _⟩, by repeat (first | exact Drawn0.refl _ | apply Drawn0.step)⟩
  case round =>
   clear H'
   try clear p2
   try clear c3
   try clear c3b0
   try clear c3b1
   obtain ⟨x5_1, x6_1, rfl, rfl, HA, HK1, ⟨m1, rfl⟩⟩ := hrel
   cases gk with
   | zero => exact absurd HA.out (by simp [head_fold.l0])
   | succ k1 =>
    have H := HA.out
    clear HA
    simp only [head_fold.l0] at H
    by_cases c4 : x6_1 < (a0.size : Int)
    ·rw [if_pos c4] at H
     have c4b0 : decide (x6_1 < (a0.size : Int)) = true := decide_eq_true c4
     clear c4
     have HC5 := Aside0.mk H
     clear H
     go_upto_region 7 with (fail)
     go_cut [35] (fun v35 wc => ∃ (kq : Nat) (x35_4 : Bool), v35 = .bool x35_4 ∧ Aside0 (head_fold.j1 kq a0 x5_1 x6_1 x35_4 = some r) ∧ Aside0 (kq ≤ k1) ∧ Drawn0 w wc)
     case first =>
      have H := HC5.out
      clear HC5
      by_cases c6 : 0 ≤ x6_1
      ·rw [if_pos c6] at H
       have c6b0 : decide (0 ≤ x6_1) = true := decide_eq_true c6
       clear c6
       (first | rw [c6b0] | (simp only [i64_w, i32_w]; rw [c6b0]) | skip)
       by_cases c8 : (bt a0 x6_1) = 32
       ·rw [if_pos c8] at H
        have c8b0 : ((bt a0 x6_1) == 32) = true := beq_iff_eq.mpr c8
        have c8b1 : ((bt a0 x6_1) != 32) = false := bne_eq_false_iff_eq.mpr c8
        clear c8
        obtain ⟨ji9, hji9⟩ : ∃ j_ : Int, (wrap64 (x6_1 - 1)) = j_ := ⟨_, rfl⟩
        replace H : (if 0 ≤ (ji9) then (if (ji9) < (a0.size : Int) then (if (bt a0 (ji9)) = 44 then (if x5_1 ≥ 0 then (head_fold.j1 k1 a0 x5_1 x6_1 (decide (x6_1 > 78))) else (head_fold.j1 k1 a0 x5_1 x6_1 false)) else (head_fold.j1 k1 a0 x5_1 x6_1 true)) else (none)) else (none)) = some r := by first | (rw [hji9] at H; exact H) | (simp only [hji9] at H ⊢; exact H)
        have hji9w : (IntKind.i64.wrap (x6_1 - 1)) = ji9 := (i64_w _).trans hji9
        by_cases c10 : 0 ≤ (ji9)
        ·rw [if_pos c10] at H
         have c10b0 : decide (0 ≤ (ji9)) = true := decide_eq_true c10
         clear c10
         by_cases c11 : (ji9) < (a0.size : Int)
         ·rw [if_pos c11] at H
          have c11b0 : decide ((ji9) < (a0.size : Int)) = true := decide_eq_true c11
          clear c11
          by_cases c13 : (bt a0 (ji9)) = 44
          ·rw [if_pos c13] at H
           have c13b0 : ((bt a0 (ji9)) == 44) = true := beq_iff_eq.mpr c13
           have c13b1 : ((bt a0 (ji9)) != 44) = false := bne_eq_false_iff_eq.mpr c13
           clear c13
           by_cases c14 : x5_1 ≥ 0
           ·rw [if_pos c14] at H
            have c14b0 : decide (0 ≤ x5_1) = true := decide_eq_true c14
            clear c14
            have H' := Aside0.mk H
            clear H
            have p7 : 0 ≤ (x6_1 : Int) := od
            have q7 : x6_1 < (a0.size : Int) := od
            have hx7 := bt_at a0 x6_1
            replace p7 := eq_true p7
            replace q7 := eq_true q7
            have p12 : 0 ≤ ((ji9) : Int) := od
            have q12 : (ji9) < (a0.size : Int) := od
            have hx12 := bt_at a0 (ji9)
            replace p12 := eq_true p12
            replace q12 := eq_true q12
            go_wp2
            go_meet
            case rel => exact ⟨_, (decide (x6_1 > 78)), (by first | rfl | (simp; done) | (simp [*]; done)), H', ⟨by have := HK1.out; first | omega | exact Nat.le_refl _⟩, by repeat (first | exact Drawn0.refl _ | apply Drawn0.step)⟩
           ·rw [if_neg c14] at H
            have c14b0 : decide (0 ≤ x5_1) = false := decide_eq_false c14
            clear c14
            have H' := Aside0.mk H
            clear H
            have p7 : 0 ≤ (x6_1 : Int) := od
            have q7 : x6_1 < (a0.size : Int) := od
            have hx7 := bt_at a0 x6_1
            replace p7 := eq_true p7
            replace q7 := eq_true q7
            have p12 : 0 ≤ ((ji9) : Int) := od
            have q12 : (ji9) < (a0.size : Int) := od
            have hx12 := bt_at a0 (ji9)
            replace p12 := eq_true p12
            replace q12 := eq_true q12
            go_wp2
            go_meet
            case rel => exact ⟨_, (false), (by first | rfl | (simp; done) | (simp [*]; done)), H', ⟨by have := HK1.out; first | omega | exact Nat.le_refl _⟩, by repeat (first | exact Drawn0.refl _ | apply Drawn0.step)⟩
          ·rw [if_neg c13] at H
           have c13b0 : ((bt a0 (ji9)) == 44) = false := beq_eq_false_iff_ne.mpr c13
           have c13b1 : ((bt a0 (ji9)) != 44) = true := bne_iff_ne.mpr c13
           have H' := Aside0.mk H
           clear H
           have p7 : 0 ≤ (x6_1 : Int) := od
           have q7 : x6_1 < (a0.size : Int) := od
           have hx7 := bt_at a0 x6_1
           replace p7 := eq_true p7
           replace q7 := eq_true q7
           have p12 : 0 ≤ ((ji9) : Int) := od
           have q12 : (ji9) < (a0.size : Int) := od
           have hx12 := bt_at a0 (ji9)
           replace p12 := eq_true p12
           replace q12 := eq_true q12
           go_wp2
           go_meet
           case rel => exact ⟨_, (true), (by first | rfl | (simp; done) | (simp [*]; done)), H', ⟨by have := HK1.out; first | omega | exact Nat.le_refl _⟩, by repeat (first | exact Drawn0.refl _ | apply Drawn0.step)⟩
         ·rw [if_neg c11] at H
          exact absurd H (by simp)
        ·rw [if_neg c10] at H
         exact absurd H (by simp)
       ·rw [if_neg c8] at H
        have c8b0 : ((bt a0 x6_1) == 32) = false := beq_eq_false_iff_ne.mpr c8
        have c8b1 : ((bt a0 x6_1) != 32) = true := bne_iff_ne.mpr c8
        have H' := Aside0.mk H
        clear H
        have p7 : 0 ≤ (x6_1 : Int) := od
        have q7 : x6_1 < (a0.size : Int) := od
        have hx7 := bt_at a0 x6_1
        replace p7 := eq_true p7
        replace q7 := eq_true q7
        go_wp2
        go_meet
        case rel => exact ⟨_, (true), (by first | rfl | (simp; done) | (simp [*]; done)), H', ⟨by have := HK1.out; first | omega | exact Nat.le_refl _⟩, by repeat (first | exact Drawn0.refl _ | apply Drawn0.step)⟩
      ·rw [if_neg c6] at H
       exact absurd H (by simp)
     case rest =>
      clear HC5
      try clear c1
      try clear p1
      try clear q1
      try clear hx1
      try clear p2
      try clear c3
      try clear c3b0
      try clear c3b1
      try clear c4
      try clear c4b0
      try clear c6
      try clear c6b0
      try clear p6
      try clear p7
      try clear q7
      try clear hx7
      try clear c8
      try clear c8b0
      try clear c8b1
      try clear c10
      try clear c10b0
      try clear c11
      try clear c11b0
      try clear p12
      try clear q12
      try clear hx12
      try clear c13
      try clear c13b0
      try clear c13b1
      try clear c14
      try clear c14b0
      try clear p12
      try clear p2
      try clear p7
      try clear q12
      try clear q7
      obtain ⟨kq, x35_4, rfl, HA, HJ4, ⟨mc4, rfl⟩⟩ := hcut
      cases kq with
      | zero => exact absurd HA.out (by simp [head_fold.j1])
      | succ kj4 =>
       have H := HA.out
       clear HA
       simp only [head_fold.j1] at H
       by_cases c15 : x35_4 = true
       ·subst c15
        have H1 : (head_fold.l0 kj4 a0 x5_1 (wrap64 (x6_1 + 1))) = some r := by rw [if_pos rfl] at H; exact H
        clear H
        have H := H1
        clear H1
        have H' := Aside0.mk H
        clear H
        go_wp2
        go_roundg kj4
        case measure => have := HK1.out; have := HJ4.out; omega
        case rel => exact ⟨(x5_1), (wrap64 (x6_1 + 1)), (by first | rfl | (simp; done) | (simp [*]; done)), (by first | rfl | (simp; done) | (simp [*]; done)), H', ⟨by have := HK1.out; have := HJ4.out; omega⟩, by repeat (first | exact Drawn0.refl _ | apply Drawn0.step)⟩
       ·replace c15 := Bool.eq_false_iff.mpr c15
        subst c15
        have H1 : (if x6_1 > 78 then (some x6_1) else (head_fold.l0 kj4 a0 x6_1 (wrap64 (x6_1 + 1)))) = some r := by rw [if_neg (show ¬ (false = true) by decide)] at H; exact H
        clear H
        have H := H1
        clear H1
        by_cases c16 : x6_1 > 78
        ·rw [if_pos c16] at H
         have c16b0 : decide (78 < x6_1) = true := decide_eq_true c16
         clear c16
         obtain rfl := Option.some.inj H
         go_wp2
         go_ret
         exact ⟨by first | rfl | (simp [bneNil]; done) | (simp; done) | (simp [*]; done), by repeat (first | exact Drawn0.refl _ | apply Drawn0.step)⟩
        ·rw [if_neg c16] at H
         have c16b0 : decide (78 < x6_1) = false := decide_eq_false c16
         clear c16
         have H' := Aside0.mk H
         clear H
         go_wp2
         go_roundg kj4
         case measure => have := HK1.out; have := HJ4.out; omega
         case rel => exact ⟨(x6_1), (wrap64 (x6_1 + 1)), (by first | rfl | (simp; done) | (simp [*]; done)), (by first | rfl | (simp; done) | (simp [*]; done)), H', ⟨by have := HK1.out; have := HJ4.out; omega⟩, by repeat (first | exact Drawn0.refl _ | apply Drawn0.step)⟩
    ·rw [if_neg c4] at H
     have c4b0 : decide (x6_1 < (a0.size : Int)) = false := decide_eq_false c4
     clear c4
     obtain rfl := Option.some.inj H
     go_wp2
     go_ret
     exact ⟨by first | rfl | (simp [bneNil]; done) | (simp; done) | (simp [*]; done), by repeat (first | exact Drawn0.refl _ | apply Drawn0.step)⟩

end Go.Proofs.YtdciiahlakgikaaDoor.Q
end
section
namespace Go.Proofs.YtdciiahlakgikaaDoor.Q
open Go.RowKit Go.Proofs.YtdciiahlakgikaaDoorW.PrintWords Go.Proofs.YtdciiahlakgikaaDoorW.PrintLast Go.Proofs.YtdciiahlakgikaaDoorW.PrintMore
attribute [local go_sem] max2_int min2_int max_two min_two max_three min_three max_four min_four   -- for this text's walks alone
set_option linter.unusedVariables false
set_option linter.unusedSimpArgs false

/-! ### head_Lay: function 14 -/
mutual
def head_Lay.j0 : Nat → ByteArray → ByteArray → Bool → Option (ByteArray × ByteArray × ByteArray × Int)
 | 0, _, _, _ => none
 | k + 1, x0, x1, x19 => if x19 = true then (some ((⟨#[]⟩ : ByteArray), (⟨#[]⟩ : ByteArray), (⟨#[]⟩ : ByteArray), 5)) else (if x0.size + 2 ≤ 9223372036854775807 then (if (x0 ++ (⟨#[58, 32]⟩ : ByteArray)).size + x1.size ≤ 9223372036854775807 then ((head_fold.f k ((x0 ++ (⟨#[58, 32]⟩ : ByteArray)) ++ x1) (wrap64 ((x0.size : Int) + 3))).bind fun t204 => (head_Lay.l0 k ([] : List ByteArray) ((x0 ++ (⟨#[58, 32]⟩ : ByteArray)) ++ x1) t204)) else (none)) else (none))
def head_Lay.l0 : Nat → List ByteArray → ByteArray → Int → Option (ByteArray × ByteArray × ByteArray × Int)
 | 0, _, _, _ => none
 | k + 1, x6, x7, x9 => if x9 ≥ 0 then (if 0 ≤ x9 then (if x9 ≤ (x7.size : Int) then (if x6.length < 8796093022208 then ((head_fold.f k (x7.extract (x9 : Int).toNat x7.size) 2).bind fun t208 => (head_Lay.l0 k (x6 ++ [x7.extract 0 (x9 : Int).toNat]) (x7.extract (x9 : Int).toNat x7.size) t208)) else (none)) else (none)) else (none)) else (if x6.length < 8796093022208 then ((head_field.f k (x6 ++ [x7])).bind fun bt212 => (some (bt212.1, bt212.2.1, bt212.2.2.1, 0))) else (none))
end
def head_Lay.f (k : Nat) (a0 : ByteArray) (a1 : ByteArray) : Option (ByteArray × ByteArray × ByteArray × Int) := (head_named.f k a0).bind fun t202 => (if t202 = true then ((head_byteful.f k a1).bind fun t203 => (head_Lay.j0 k a0 a1 (!t203))) else (head_Lay.j0 k a0 a1 true))
theorem head_Lay.mono_l : ∀ k, (∀ y0 y1 y2, LeO (head_Lay.j0 k y0 y1 y2) (head_Lay.j0 (k + 1) y0 y1 y2)) ∧ (∀ y0 y1 y2, LeO (head_Lay.l0 k y0 y1 y2) (head_Lay.l0 (k + 1) y0 y1 y2))
 | 0 => ⟨fun _ _ _ r h => by simp [head_Lay.j0] at h, fun _ _ _ r h => by simp [head_Lay.l0] at h⟩
 | k + 1 => by
  obtain ⟨ih0, ih1⟩ := head_Lay.mono_l k
  refine ⟨?_, ?_⟩
  ·intro y0 y1 y2
   unfold head_Lay.j0
   repeat' first
   | (with_reducible exact ih0 _ _ _)
   | (with_reducible exact ih1 _ _ _)
   | (with_reducible exact head_byteful.mono _ _)
   | (with_reducible exact head_field.mono _ _)
   | (with_reducible exact head_fold.mono _ _ _)
   | (with_reducible exact head_named.mono _ _)
   | (with_reducible exact LeO.refl _)
   | (with_reducible exact LeO.none _)
   | (with_reducible refine LeO.ite ?_ ?_)
   | (with_reducible refine LeO.bind ?_ (fun _ => ?_))
   | exact ih0 _ _ _
   | exact ih1 _ _ _
   | exact head_byteful.mono _ _
   | exact head_field.mono _ _
   | exact head_fold.mono _ _ _
   | exact head_named.mono _ _
   | exact LeO.none _
   | refine LeO.ite ?_ ?_
   | refine LeO.bind ?_ (fun _ => ?_)
  ·intro y0 y1 y2
   unfold head_Lay.l0
   repeat' first
   | (with_reducible exact ih0 _ _ _)
   | (with_reducible exact ih1 _ _ _)
   | (with_reducible exact head_byteful.mono _ _)
   | (with_reducible exact head_field.mono _ _)
   | (with_reducible exact head_fold.mono _ _ _)
   | (with_reducible exact head_named.mono _ _)
   | (with_reducible exact LeO.refl _)
   | (with_reducible exact LeO.none _)
   | (with_reducible refine LeO.ite ?_ ?_)
   | (with_reducible refine LeO.bind ?_ (fun _ => ?_))
   | exact ih0 _ _ _
   | exact ih1 _ _ _
   | exact head_byteful.mono _ _
   | exact head_field.mono _ _
   | exact head_fold.mono _ _ _
   | exact head_named.mono _ _
   | exact LeO.none _
   | refine LeO.ite ?_ ?_
   | refine LeO.bind ?_ (fun _ => ?_)
theorem head_Lay.mono : ∀ a0 a1 k, LeO (head_Lay.f k a0 a1) (head_Lay.f (k + 1) a0 a1) := by
 intro a0 a1 k
 obtain ⟨ih0, ih1⟩ := head_Lay.mono_l k
 unfold head_Lay.f
 repeat' first
   | (with_reducible exact ih0 _ _ _)
   | (with_reducible exact ih1 _ _ _)
   | (with_reducible exact head_byteful.mono _ _)
   | (with_reducible exact head_field.mono _ _)
   | (with_reducible exact head_fold.mono _ _ _)
   | (with_reducible exact head_named.mono _ _)
   | (with_reducible exact LeO.refl _)
   | (with_reducible exact LeO.none _)
   | (with_reducible refine LeO.ite ?_ ?_)
   | (with_reducible refine LeO.bind ?_ (fun _ => ?_))
   | exact ih0 _ _ _
   | exact ih1 _ _ _
   | exact head_byteful.mono _ _
   | exact head_field.mono _ _
   | exact head_fold.mono _ _ _
   | exact head_named.mono _ _
   | exact LeO.none _
   | refine LeO.ite ?_ ?_
   | refine LeO.bind ?_ (fun _ => ?_)
set_option maxHeartbeats 8000000 in
set_option maxRecDepth 100000 in
theorem head_Lay.calls (k : Nat) (a0 : ByteArray) (a1 : ByteArray) (r1 : ByteArray) (r2 : ByteArray) (r3 : ByteArray) (r4 : Int) (w : World) (hG : Glob w) (h : head_Lay.f k a0 a1 = some (r1, r2, r3, r4)) :
  Calls Tryd.prog 14 #[.string a0, .string a1] w fun e w' => e = .returned (.tuple #[.agg #[.string r1, .string r2, .string r3], .int .i64 r4]) ∧ Below w.heap.size w w' := by
 have hu41 := Tryd.underlying41
 have HB := Aside0.mk (Below.refl w.heap.size w)
 have HG := Aside0.mk hG
 clear hG
 have H : ((head_named.f k a0).bind fun t202 => (if t202 = true then ((head_byteful.f k a1).bind fun t203 => (head_Lay.j0 k a0 a1 (!t203))) else (head_Lay.j0 k a0 a1 true))) = some (r1, r2, r3, r4) := h
 clear h
 have HC3 := Aside0.mk H
 clear H
 go_enter Tryd.func14, Tryd.ntmps14
 go_upto_region 1 with (first | ((with_reducible refine gate_dst (N := 4) rfl ?_); refine box_event ?hg (N := 4) ?hd (cs := #[.string (⟨#[]⟩ : ByteArray), .string (⟨#[]⟩ : ByteArray), .string (⟨#[]⟩ : ByteArray)]) (t := 41) ?hr ?_; (case hd => rfl); (case hg => rfl); (case hr => first | (go_simp; done) | (go_simp; rfl)); intro gb201 hg w4 hbox hb; have n0_ := Aside0.mk (below_step bl hb); have n1_ := Aside0.mk (hbox); have n2_ := Aside0.mk ((by rw [hg]; exact (below_size bl) : w.heap.size ≤ gb201)); have n3_ := Aside0.mk ((by rw [hg]; exact (below_size bl) : w.heap.size ≤ gb201)); clear HB; have HB := n0_; have BK201 := n1_; have GW201 := n2_; have GE201 := n3_; clear n0_ n1_ n2_ n3_; clear hb hbox hg))
 (try simp only [Act.put, List.setIfInBounds_toArray, List.set_cons_zero, List.set_cons_succ])
 go_cut [19] (fun v19 wc => ∃ (kq : Nat) (x19_2 : Bool), v19 = .bool x19_2 ∧ Aside0 (head_Lay.j0 kq a0 a1 x19_2 = some (r1, r2, r3, r4)) ∧ Aside0 (kq ≤ k) ∧ Aside0 (wc.heap[gb201]? = some (.cells #[.string (⟨#[]⟩ : ByteArray), .string (⟨#[]⟩ : ByteArray), .string (⟨#[]⟩ : ByteArray)] 41 (0, 0))) ∧ Aside0 (Below w.heap.size w wc))
 case first =>
  have H := HC3.out
  clear HC3
  replace H := Option.bind_eq_some_iff.mp H
  obtain ⟨t202, A50, H⟩ := H
  replace H : (if t202 = true then ((head_byteful.f k a1).bind fun t203 => (head_Lay.j0 k a0 a1 (!t203))) else (head_Lay.j0 k a0 a1 true)) = some (r1, r2, r3, r4) := H
  have A5 := Aside0.mk A50
  clear A50
  by_cases c6 : t202 = true
  ·subst c6
   have H1 : ((head_byteful.f k a1).bind fun t203 => (head_Lay.j0 k a0 a1 (!t203))) = some (r1, r2, r3, r4) := by rw [if_pos rfl] at H; exact H
   clear H
   have H := H1
   clear H1
   replace H := Option.bind_eq_some_iff.mp H
   obtain ⟨t203, A70, H⟩ := H
   replace H : (head_Lay.j0 k a0 a1 (!t203)) = some (r1, r2, r3, r4) := H
   have A7 := Aside0.mk A70
   clear A70
   have H' := Aside0.mk H
   clear H
   go_wp2_with (first | ((with_reducible refine gate_callee (f := 46) rfl ?_); refine goesL_ (some 13) rfl rfl Tryd.func46 (by kernel_rfl) rfl #[.string a0] rfl ml ?_; (with_reducible refine (head_named.calls k a0 true _ A5.out).mono ?_); rintro e w' ⟨rfl, ⟨nd, rfl⟩⟩; refine ⟨_, rfl, ?_⟩) | (go_at_call 47; (with_reducible refine (head_byteful.calls k a1 t203 _ A7.out).mono ?_); rintro e w' ⟨rfl, ⟨nd, rfl⟩⟩))
   go_meet
   case rel => exact ⟨_, (!t203), (by first | rfl | (simp; done) | (simp [*]; done)), H', ⟨by first | omega | exact Nat.le_refl _⟩, ⟨by (with_reducible repeat (first | refine blk_drewN ?_ _ | refine blk_drew ?_ | refine blk_alloc ?_ _)); exact BK201.out⟩, ⟨by repeat (first | (with_reducible first | exact HB.out | apply below_alloc | apply pw_below_drewN | apply below_drew1 | refine below_set ?_ GE201.out) | exact HB.out)⟩⟩
  ·replace c6 := Bool.eq_false_iff.mpr c6
   subst c6
   have H1 : (head_Lay.j0 k a0 a1 true) = some (r1, r2, r3, r4) := by rw [if_neg (show ¬ (false = true) by decide)] at H; exact H
   clear H
   have H := H1
   clear H1
   have H' := Aside0.mk H
   clear H
   go_wp2_with (first | ((with_reducible refine gate_callee (f := 46) rfl ?_); refine goesL_ (some 13) rfl rfl Tryd.func46 (by kernel_rfl) rfl #[.string a0] rfl ml ?_; (with_reducible refine (head_named.calls k a0 false _ A5.out).mono ?_); rintro e w' ⟨rfl, ⟨nd, rfl⟩⟩; refine ⟨_, rfl, ?_⟩))
   go_meet
   case rel => exact ⟨_, (true), (by first | rfl | (simp; done) | (simp [*]; done)), H', ⟨by first | omega | exact Nat.le_refl _⟩, ⟨by (with_reducible repeat (first | refine blk_drewN ?_ _ | refine blk_drew ?_ | refine blk_alloc ?_ _)); exact BK201.out⟩, ⟨by repeat (first | (with_reducible first | exact HB.out | apply below_alloc | apply pw_below_drewN | apply below_drew1 | refine below_set ?_ GE201.out) | exact HB.out)⟩⟩
 case rest =>
  clear HC3
  try clear c1
  try clear p2
  try clear c4
  try clear c6
  obtain ⟨kq, x19_2, rfl, HA, HJ2, BK201, HB⟩ := hcut
  cases kq with
  | zero => exact absurd HA.out (by simp [head_Lay.j0])
  | succ kj2 =>
   have H := HA.out
   clear HA
   simp only [head_Lay.j0] at H
   by_cases c8 : x19_2 = true
   ·subst c8
    have H1 : (some ((⟨#[]⟩ : ByteArray), (⟨#[]⟩ : ByteArray), (⟨#[]⟩ : ByteArray), 5)) = some (r1, r2, r3, r4) := by rw [if_pos rfl] at H; exact H
    clear H
    have H := H1
    clear H1
    simp only [Option.some.injEq, Prod.mk.injEq] at H
    obtain ⟨rfl, rfl, rfl, rfl⟩ := H
    have hcz9_0 : wc.cell? ⟨gb201, 0, none⟩ = some (.string (⟨#[]⟩ : ByteArray)) := (blk_cell BK201.out 0).trans rfl
    have hcz9_1 : wc.cell? ⟨gb201, 1, none⟩ = some (.string (⟨#[]⟩ : ByteArray)) := (blk_cell BK201.out 1).trans rfl
    have hcz9_2 : wc.cell? ⟨gb201, 2, none⟩ = some (.string (⟨#[]⟩ : ByteArray)) := (blk_cell BK201.out 2).trans rfl
    have hfz9_0 := blk_frozen BK201.out 0
    have hfz9_1 := blk_frozen BK201.out 1
    have hfz9_2 := blk_frozen BK201.out 2
    go_wp2
    refine bodyPost_ret (results_ct rfl _ _ gb201 41 #[.string (⟨#[]⟩ : ByteArray), .string (⟨#[]⟩ : ByteArray), .string (⟨#[]⟩ : ByteArray)] (0, 0) _ rfl (by (with_reducible repeat (first | refine blk_drewN ?_ _ | refine blk_drew ?_ | refine blk_alloc ?_ _)); refine blk_put (cs := #[.string (⟨#[]⟩ : ByteArray), .string (⟨#[]⟩ : ByteArray), .string (⟨#[]⟩ : ByteArray)]) ?_ 2 _ rfl; (with_reducible repeat (first | refine blk_drewN ?_ _ | refine blk_drew ?_ | refine blk_alloc ?_ _)); refine blk_put (cs := #[.string (⟨#[]⟩ : ByteArray), .string (⟨#[]⟩ : ByteArray), .string (⟨#[]⟩ : ByteArray)]) ?_ 1 _ rfl; (with_reducible repeat (first | refine blk_drewN ?_ _ | refine blk_drew ?_ | refine blk_alloc ?_ _)); refine blk_put (cs := #[.string (⟨#[]⟩ : ByteArray), .string (⟨#[]⟩ : ByteArray), .string (⟨#[]⟩ : ByteArray)]) ?_ 0 _ rfl; (with_reducible repeat (first | refine blk_drewN ?_ _ | refine blk_drew ?_ | refine blk_alloc ?_ _)); exact BK201.out) Tryd.underlying41 rfl (by kernel_rfl)) rfl ?_
    exact ⟨by first | rfl | (simp [bneNil]; done) | (simp [errW_none, errW_some] <;> rfl) | (simp [*, errW_none, errW_some] <;> rfl), by repeat (first | (with_reducible first | exact HB.out | apply below_alloc | apply pw_below_drewN | apply below_drew1 | refine below_set ?_ GE201.out) | exact HB.out)⟩
   ·replace c8 := Bool.eq_false_iff.mpr c8
    subst c8
    have H1 : (if a0.size + 2 ≤ 9223372036854775807 then (if (a0 ++ (⟨#[58, 32]⟩ : ByteArray)).size + a1.size ≤ 9223372036854775807 then ((head_fold.f kj2 ((a0 ++ (⟨#[58, 32]⟩ : ByteArray)) ++ a1) (wrap64 ((a0.size : Int) + 3))).bind fun t204 => (head_Lay.l0 kj2 ([] : List ByteArray) ((a0 ++ (⟨#[58, 32]⟩ : ByteArray)) ++ a1) t204)) else (none)) else (none)) = some (r1, r2, r3, r4) := by rw [if_neg (show ¬ (false = true) by decide)] at H; exact H
    clear H
    have H := H1
    clear H1
    by_cases c10 : a0.size + 2 ≤ 9223372036854775807
    ·rw [if_pos c10] at H
     have c10b0 := eq_true c10
     have c10b1 : decide (a0.size + 2 ≤ 9223372036854775807) = true := decide_eq_true c10
     try have c10b2 : (9223372036854775807 < a0.size + 2) = False := eq_false (Nat.not_lt.2 c10)
     by_cases c11 : (a0 ++ (⟨#[58, 32]⟩ : ByteArray)).size + a1.size ≤ 9223372036854775807
     ·rw [if_pos c11] at H
      have c11b0 := eq_true c11
      have c11b1 : decide ((a0 ++ (⟨#[58, 32]⟩ : ByteArray)).size + a1.size ≤ 9223372036854775807) = true := decide_eq_true c11
      try have c11b2 : (9223372036854775807 < (a0 ++ (⟨#[58, 32]⟩ : ByteArray)).size + a1.size) = False := eq_false (Nat.not_lt.2 c11)
      try (have c11b2y := c11b2; rw [ByteArray.size_append] at c11b2y)
      try have c11b2z : (9223372036854775807 < a0.size + 2 + a1.size) = False := eq_false (fun h_ => by have g_ := c11; simp only [ByteArray.size_append, show (⟨#[58, 32]⟩ : ByteArray).size = 2 from rfl] at g_; omega)
      replace H := Option.bind_eq_some_iff.mp H
      obtain ⟨t204, A120, H⟩ := H
      replace H : (head_Lay.l0 kj2 ([] : List ByteArray) ((a0 ++ (⟨#[58, 32]⟩ : ByteArray)) ++ a1) t204) = some (r1, r2, r3, r4) := H
      have A12 := Aside0.mk A120
      clear A120
      have H' := Aside0.mk H
      clear H
      go_wp2_with (first | ((with_reducible refine gate_callee (f := 48) rfl ?_); refine goesL_ (some 30) rfl rfl Tryd.func48 (by kernel_rfl) rfl #[.string ((a0 ++ (⟨#[58, 32]⟩ : ByteArray)) ++ a1), .int .i64 (wrap64 ((a0.size : Int) + 3))] rfl ml ?_; (with_reducible refine (head_fold.calls kj2 ((a0 ++ (⟨#[58, 32]⟩ : ByteArray)) ++ a1) (wrap64 ((a0.size : Int) + 3)) t204 _ A12.out).mono ?_); rintro e w' ⟨rfl, ⟨nd, rfl⟩⟩; refine ⟨_, rfl, ?_⟩))
      go_loopg [6, 7, 9] kj2 (fun kq v6 v7 v9 w' => ∃ (x6_2 : List ByteArray) (x7_2 : ByteArray) (x9_2 : Int), v7 = .string x7_2 ∧ v9 = .int .i64 x9_2 ∧ Aside0 (head_Lay.l0 kq x6_2 x7_2 x9_2 = some (r1, r2, r3, r4)) ∧ Aside0 (kq ≤ kj2) ∧ Aside0 (Kd.R Kd.string 9 w' w.heap.size (fun _ => True) v6 x6_2) ∧ Aside0 (w'.heap[gb201]? = some (.cells #[.string (⟨#[]⟩ : ByteArray), .string (⟨#[]⟩ : ByteArray), .string (⟨#[]⟩ : ByteArray)] 41 (0, 0))) ∧ Aside0 (Below w.heap.size w w'))
      case atStart => exact ⟨(([] : List ByteArray)), ((a0 ++ (⟨#[58, 32]⟩ : ByteArray)) ++ a1), (t204), (by first | rfl | (simp; done) | (simp [*]; done)), (by first | rfl | (simp; done) | (simp [*]; done)), H', ⟨Nat.le_refl _⟩, ⟨by first | exact Kd.R_nil _ _ _ _ _ | exact Kd.N_nil _ _ _ _ _ | exact Kd.V_nil _ _ _ _ _ | exact Kd.Q_nil _ _ _ _ _ | exact Kd.S_nil _ _ _ _ _⟩, ⟨by (with_reducible repeat (first | refine blk_drewN ?_ _ | refine blk_drew ?_ | refine blk_alloc ?_ _)); exact BK201.out⟩, ⟨by repeat (first | (with_reducible first | exact HB.out | apply below_alloc | apply pw_below_drewN | apply below_drew1 | refine below_set ?_ GE201.out) | exact HB.out)⟩⟩
      case round =>
       clear H'
       try clear c1
       try clear p2
       try clear c4
       try clear c6
       try clear p6
       try clear c8
       try clear c10
       try clear c10b0
       try clear c10b1
       try clear c10b2
       try clear c11
       try clear c11b0
       try clear c11b1
       try clear c11b2
       try clear hcz9_0
       try clear hcz9_1
       try clear hcz9_2
       try clear hfz9_0
       try clear hfz9_1
       try clear hfz9_2
       try clear p2
       obtain ⟨x6_2, x7_2, x9_2, rfl, rfl, HA, HK2, HO_6, BK201, HB⟩ := hrel
       cases gk with
       | zero => exact absurd HA.out (by simp [head_Lay.l0])
       | succ k2 =>
        have H := HA.out
        clear HA
        simp only [head_Lay.l0] at H
        by_cases c13 : x9_2 ≥ 0
        ·rw [if_pos c13] at H
         have c13b0 : decide (0 ≤ x9_2) = true := decide_eq_true c13
         clear c13
         by_cases c14 : 0 ≤ x9_2
         ·rw [if_pos c14] at H
          have c14b0 := eq_true c14
          have c14b1 : decide (0 ≤ x9_2) = true := decide_eq_true c14
          clear c14
          by_cases c15 : x9_2 ≤ (x7_2.size : Int)
          ·rw [if_pos c15] at H
           have c15b0 := eq_true c15
           have c15b1 : decide (x9_2 ≤ (x7_2.size : Int)) = true := decide_eq_true c15
           clear c15
           by_cases c16 : x6_2.length < 8796093022208
           ·rw [if_pos c16] at H
            have LMc16 := Aside0.mk c16
            clear c16
            obtain ⟨y205, hy205⟩ : ∃ y_ : List ByteArray, y_ = (x6_2 ++ [x7_2.extract 0 (x9_2 : Int).toNat]) := ⟨_, rfl⟩
            replace H : ((head_fold.f k2 (x7_2.extract (x9_2 : Int).toNat x7_2.size) 2).bind fun t208 => (head_Lay.l0 k2 y205 (x7_2.extract (x9_2 : Int).toNat x7_2.size) t208)) = some (r1, r2, r3, r4) := by first | (rw [hy205]; with_reducible exact H) | (have H2_ := (Option.bind_some _ _).symm.trans H; rw [hy205]; with_reducible exact H2_) | (have H2_ := (Option.bind_some _ _).symm.trans H; with_reducible exact H2_) | with_reducible exact H | (rw [hy205]; exact H) | exact H
            have Ny205 := Aside0.mk hy205
            clear hy205
            have c17b0 := eq_true (od : 0 ≤ x9_2)
            have c18b0 := eq_true (od : x9_2 ≤ (x7_2.size : Int))
            replace H := Option.bind_eq_some_iff.mp H
            obtain ⟨t208, A190, H⟩ := H
            replace H : (head_Lay.l0 k2 y205 (x7_2.extract (x9_2 : Int).toNat x7_2.size) t208) = some (r1, r2, r3, r4) := H
            have A19 := Aside0.mk A190
            clear A190
            have H' := Aside0.mk H
            clear H
            go_wp2_with (first | ((with_reducible refine gate_builtin (b := .append) (xs := #[.tmp 36, .tmp 40]) rfl ?_); at_builtin; refine Kd.R_append Kd.string (w0 := w) w.heap.size rfl (.tmp 36) (.tmp 40) 37 9 (.string ⟨#[]⟩) 16 rfl Tryd.underlying37 info9 rfl (by decide) (by omega) u6 x6_2 (x7_2.extract 0 (x9_2 : Int).toNat) [.string (x7_2.extract 0 (x9_2 : Int).toNat)] (fun _ => True) (fun _ => False) rfl rfl ?aP (fun _ hk => hk.elim) ?aF ?aO ?aB ?aS ?aL ?_; (case aP => exact rfl); (case aB => exact bl); (case aF => exact (fun _ _ => trivial)); (case aO => exact (kr HO_6.out)); (case aS => exact (below_size bl)); (case aL => have := LMc16.out; omega); intro v206 w20 ho hb hg hat; rw [← Ny205.out] at ho; have n0_ := Aside0.mk (blk_grown (g := gb201) (o := .cells #[.string (⟨#[]⟩ : ByteArray), .string (⟨#[]⟩ : ByteArray), .string (⟨#[]⟩ : ByteArray)] 41 (0, 0)) (bk BK201.out) hg (Kd.R_ne HO_6.out BK201.out (by decide))); have n1_ := Aside0.mk (hb); have n2_ := Aside0.mk (ho); clear BK201; clear HB; clear HO_6; have BK201 := n0_; have HB := n1_; have HO207 := n2_; clear n0_ n1_ n2_; clear ho hb hg hat) | ((with_reducible refine gate_callee (f := 48) rfl ?_); refine goesL_ (some 35) rfl rfl Tryd.func48 (by kernel_rfl) rfl #[.string (x7_2.extract (x9_2 : Int).toNat x7_2.size), .int .i64 2] rfl ml ?_; (with_reducible refine (head_fold.calls k2 (x7_2.extract (x9_2 : Int).toNat x7_2.size) 2 t208 _ A19.out).mono ?_); rintro e w' ⟨rfl, ⟨nd, rfl⟩⟩; refine ⟨_, rfl, ?_⟩))
            go_roundg k2
            case measure => have := HJ2.out; have := HK2.out; omega
            case rel => exact ⟨(y205), (x7_2.extract (x9_2 : Int).toNat x7_2.size), (t208), (by first | rfl | (simp; done) | (simp [*]; done)), (by first | rfl | (simp; done) | (simp [*]; done)), H', ⟨by have := HJ2.out; have := HK2.out; omega⟩, ⟨by (with_reducible repeat (first | apply Kd.R_alloc | apply Kd.R_drewN | apply Kd.R_drew)); exact HO207.out⟩, ⟨by (with_reducible repeat (first | refine blk_drewN ?_ _ | refine blk_drew ?_ | refine blk_alloc ?_ _)); exact BK201.out⟩, ⟨by repeat (first | (with_reducible first | exact HB.out | apply below_alloc | apply pw_below_drewN | apply below_drew1 | refine below_set ?_ GE201.out) | exact HB.out)⟩⟩
           ·rw [if_neg c16] at H
            exact absurd H (by simp)
          ·rw [if_neg c15] at H
           exact absurd H (by simp)
         ·rw [if_neg c14] at H
          exact absurd H (by simp)
        ·rw [if_neg c13] at H
         have c13b0 : decide (0 ≤ x9_2) = false := decide_eq_false c13
         clear c13
         by_cases c21 : x6_2.length < 8796093022208
         ·rw [if_pos c21] at H
          have LMc21 := Aside0.mk c21
          clear c21
          obtain ⟨y209, hy209⟩ : ∃ y_ : List ByteArray, y_ = (x6_2 ++ [x7_2]) := ⟨_, rfl⟩
          replace H : ((head_field.f k2 y209).bind fun bt212 => (some (bt212.1, bt212.2.1, bt212.2.2.1, 0))) = some (r1, r2, r3, r4) := by first | (rw [hy209]; with_reducible exact H) | (have H2_ := (Option.bind_some _ _).symm.trans H; rw [hy209]; with_reducible exact H2_) | (have H2_ := (Option.bind_some _ _).symm.trans H; with_reducible exact H2_) | with_reducible exact H | (rw [hy209]; exact H) | exact H
          have Ny209 := Aside0.mk hy209
          clear hy209
          replace H := Option.bind_eq_some_iff.mp H
          obtain ⟨⟨t212, t213, t214, t215⟩, A220, H⟩ := H
          replace H : (some (t212, t213, t214, 0)) = some (r1, r2, r3, r4) := H
          have A22 := Aside0.mk A220
          clear A220
          simp only [Option.some.injEq, Prod.mk.injEq] at H
          obtain ⟨rfl, rfl, rfl, rfl⟩ := H
          go_wp2_with (first | ((with_reducible refine gate_builtin (b := .append) (xs := #[.tmp 46, .tmp 48]) rfl ?_); at_builtin; refine Kd.R_append Kd.string (w0 := w) w.heap.size rfl (.tmp 46) (.tmp 48) 37 9 (.string ⟨#[]⟩) 16 rfl Tryd.underlying37 info9 rfl (by decide) (by omega) u6 x6_2 x7_2 [.string x7_2] (fun _ => True) (fun _ => False) rfl rfl ?aP (fun _ hk => hk.elim) ?aF ?aO ?aB ?aS ?aL ?_; (case aP => exact rfl); (case aB => exact bl); (case aF => exact (fun _ _ => trivial)); (case aO => exact (kr HO_6.out)); (case aS => exact (below_size bl)); (case aL => have := LMc21.out; omega); intro v210 w23 ho hb hg hat; rw [← Ny209.out] at ho; have n0_ := Aside0.mk (blk_grown (g := gb201) (o := .cells #[.string (⟨#[]⟩ : ByteArray), .string (⟨#[]⟩ : ByteArray), .string (⟨#[]⟩ : ByteArray)] 41 (0, 0)) (bk BK201.out) hg (Kd.R_ne HO_6.out BK201.out (by decide))); have n1_ := Aside0.mk (hb); have n2_ := Aside0.mk (ho); clear BK201; clear HB; clear HO_6; have BK201 := n0_; have HB := n1_; have HO211 := n2_; clear n0_ n1_ n2_; clear ho hb hg hat; obtain ⟨Ao24, co24, eo24⟩ := Kd.R_slice HO211.out; subst eo24) | ((with_reducible refine gate_callee (f := 42) rfl ?_); refine goesL_ (some 50) rfl rfl Tryd.func42 (by kernel_rfl) rfl #[.slice Ao24 y209.length co24] rfl ml ?_; (with_reducible refine (head_field.calls k2 _ _ y209 t212 t213 t214 t215 _ ?side1 ?side2 ?side3 A22.out).mono ?_); (case side1 => repeat (first | exact (Kd.R_reads' HO211.out).2.2 | (with_reducible refine Kd.C_alloc ?_ _) | (with_reducible refine Kd.C_drewN ?_ _) | (with_reducible refine Kd.C_drew ?_))); (case side2 => exact (Kd.R_reads' HO211.out).2.1); (case side3 => exact Glob.below HG.out bl); rintro e w25 ⟨rfl, hb⟩; refine ⟨_, rfl, ?_⟩; have n0_ := Aside0.mk (Kd.R_below (kr HO211.out) hb); have n1_ := Aside0.mk (kb BK201.out hb); have n2_ := Aside0.mk (below_step bl hb); clear HO211; clear BK201; clear HB; have HO211 := n0_; have BK201 := n1_; have HB := n2_; clear n0_ n1_ n2_; (try clear hb); (try clear hb2); (try clear hk); (try clear hi)) | ((with_reducible refine gate_dst (N := 10) rfl ?_); refine box_event ?hg (N := 10) ?hd (cs := #[.string (⟨#[]⟩ : ByteArray), .string (⟨#[]⟩ : ByteArray), .string (⟨#[]⟩ : ByteArray)]) (t := 41) ?hr ?_; (case hd => rfl); (case hg => rfl); (case hr => first | (go_simp; done) | (go_simp; rfl)); intro gb216 hg w26 hbox hb; have n0_ := Aside0.mk (Kd.R_below (kr HO211.out) hb); have n1_ := Aside0.mk (kb BK201.out hb); have n2_ := Aside0.mk (below_step bl hb); have n3_ := Aside0.mk (hbox); have n4_ := Aside0.mk ((by rw [hg]; exact (below_size bl) : w.heap.size ≤ gb216)); have n5_ := Aside0.mk ((by rw [hg]; exact (below_size bl) : w.heap.size ≤ gb216)); have n6_ := Aside0.mk ((by rw [hg]; exact Nat.ne_of_lt (blk_lt (bk BK201.out)) : gb201 ≠ gb216)); have n7_ := Aside0.mk ((by rw [hg]; exact Nat.ne_of_gt (blk_lt (bk BK201.out)) : gb216 ≠ gb201)); clear HO211; clear BK201; clear HB; have HO211 := n0_; have BK201 := n1_; have HB := n2_; have BK216 := n3_; have GW216 := n4_; have GE216 := n5_; have NB201_216 := n6_; have NB216_201 := n7_; clear n0_ n1_ n2_ n3_ n4_ n5_ n6_ n7_; clear hb hbox hg; have hnb27 := NB216_201.out; have hnc27 := NB201_216.out; have hcz28_0 : w26.cell? ⟨gb216, 0, none⟩ = some (.string (⟨#[]⟩ : ByteArray)) := (blk_cell BK216.out 0).trans rfl; have hcz28_1 : w26.cell? ⟨gb216, 1, none⟩ = some (.string (⟨#[]⟩ : ByteArray)) := (blk_cell BK216.out 1).trans rfl; have hcz28_2 : w26.cell? ⟨gb216, 2, none⟩ = some (.string (⟨#[]⟩ : ByteArray)) := (blk_cell BK216.out 2).trans rfl; have hfz28_0 := blk_frozen BK216.out 0; have hfz28_1 := blk_frozen BK216.out 1; have hfz28_2 := blk_frozen BK216.out 2; have hcz29_0 : w26.cell? ⟨gb201, 0, none⟩ = some (.string (⟨#[]⟩ : ByteArray)) := (blk_cell BK201.out 0).trans rfl; have hcz29_1 : w26.cell? ⟨gb201, 1, none⟩ = some (.string (⟨#[]⟩ : ByteArray)) := (blk_cell BK201.out 1).trans rfl; have hcz29_2 : w26.cell? ⟨gb201, 2, none⟩ = some (.string (⟨#[]⟩ : ByteArray)) := (blk_cell BK201.out 2).trans rfl; have hfz29_0 := blk_frozen BK201.out 0; have hfz29_1 := blk_frozen BK201.out 1; have hfz29_2 := blk_frozen BK201.out 2))
          refine bodyPost_ret (results_ct rfl _ _ gb201 41 #[.string t212, .string t213, .string t214] (0, 0) _ rfl (by (with_reducible repeat (first | refine blk_drewN ?_ _ | refine blk_drew ?_ | refine blk_alloc ?_ _)); refine blk_put (cs := #[.string t212, .string t213, .string (⟨#[]⟩ : ByteArray)]) ?_ 2 _ rfl; (with_reducible repeat (first | refine blk_drewN ?_ _ | refine blk_drew ?_ | refine blk_alloc ?_ _)); refine blk_put (cs := #[.string t212, .string (⟨#[]⟩ : ByteArray), .string (⟨#[]⟩ : ByteArray)]) ?_ 1 _ rfl; (with_reducible repeat (first | refine blk_drewN ?_ _ | refine blk_drew ?_ | refine blk_alloc ?_ _)); refine blk_put (cs := #[.string (⟨#[]⟩ : ByteArray), .string (⟨#[]⟩ : ByteArray), .string (⟨#[]⟩ : ByteArray)]) ?_ 0 _ rfl; (with_reducible repeat (first | refine blk_drewN ?_ _ | refine blk_drew ?_ | refine blk_alloc ?_ _)); refine blk_far ?_ NB201_216.out _; (with_reducible repeat (first | refine blk_drewN ?_ _ | refine blk_drew ?_ | refine blk_alloc ?_ _)); refine blk_far ?_ NB201_216.out _; (with_reducible repeat (first | refine blk_drewN ?_ _ | refine blk_drew ?_ | refine blk_alloc ?_ _)); refine blk_far ?_ NB201_216.out _; (with_reducible repeat (first | refine blk_drewN ?_ _ | refine blk_drew ?_ | refine blk_alloc ?_ _)); exact BK201.out) Tryd.underlying41 rfl (by kernel_rfl)) rfl ?_
          exact ⟨by first | rfl | (simp [bneNil]; done) | (simp [errW_none, errW_some] <;> rfl) | (simp [*, errW_none, errW_some] <;> rfl), by repeat (first | (with_reducible first | exact HB.out | apply below_alloc | apply pw_below_drewN | apply below_drew1 | refine below_set ?_ GE201.out | refine below_set ?_ GE216.out) | exact HB.out)⟩
         ·rw [if_neg c21] at H
          exact absurd H (by simp)
     ·rw [if_neg c11] at H
      exact absurd H (by simp)
    ·rw [if_neg c10] at H
     exact absurd H (by simp)

/-! ### head_Message_with: function 68 -/
def head_Message_with.f (l0_0 : List (S41)) (a0_1 : ByteArray) (a0_2 : Bool) (l1 : List (S41)) : Option ((List (S41)) × ByteArray × Bool × Int) := (head_Message_Text.f l1 a0_1 a0_2).bind fun t219 => (if (t219.size : Int) > 8192 then (some (([] : List (S41)), (⟨#[]⟩ : ByteArray), false, 3)) else (some (l1, a0_1, a0_2, 0)))
set_option maxHeartbeats 8000000 in
set_option maxRecDepth 100000 in
theorem head_Message_with.calls (A0_0 : Option Addr) (c0_0 : Nat) (l0_0 : List (S41)) (a0_1 : ByteArray) (a0_2 : Bool) (P1_ : Nat → Prop) (u9000_ : Value) (l1 : List (S41)) (r1 : List (S41)) (r2 : ByteArray) (r3 : Bool) (r4 : Int) (w0 w : World) (hB : Below w0.heap.size w0 w) (hr0_0 : ∀ W_, Kept w W_ (fun k_ => P1_ k_) → Kd.C k41 W_ A0_0 l0_0.length l0_0) (hc0_0 : l0_0.length ≤ c0_0) (ho1 : Kd.R k41 41 w w0.heap.size P1_ u9000_ l1) (h : head_Message_with.f l0_0 a0_1 a0_2 l1 = some (r1, r2, r3, r4)) :
  Calls Tryd.prog 68 #[.agg #[.slice A0_0 l0_0.length c0_0, .string a0_1, .bool a0_2], u9000_] w fun e w' => ∃ v0_ : Value, e = .returned (.tuple #[.agg #[v0_, .string r2, .bool r3], .int .i64 r4]) ∧ Kd.R k41 41 w' w0.heap.size (fun k_ => (P1_ k_ ∨ w.heap.size ≤ k_)) v0_ r1 ∧ Below w0.heap.size w0 w' ∧ Kept w w' (fun k_ => P1_ k_) := by
 have hu24 := Tryd.underlying24
 have HR0_0 := Aside0.mk hr0_0
 have HC0_0 := Aside0.mk hc0_0
 clear hr0_0 hc0_0
 have HO1 := Aside0.mk (show Kd.R k41 41 w w0.heap.size (fun k_ => (P1_ k_ ∨ w.heap.size ≤ k_)) u9000_ l1 from Kd.R_mono ho1 (fun k_ hk => (.inl hk)))
 have HK := Aside0.mk (Kept.refl w (fun k_ => P1_ k_))
 have HW0 := Aside0.mk hB.size
 have HB := Aside0.mk hB
 clear hB
 have H : ((head_Message_Text.f l1 a0_1 a0_2).bind fun t219 => (if (t219.size : Int) > 8192 then (some (([] : List (S41)), (⟨#[]⟩ : ByteArray), false, 3)) else (some (l1, a0_1, a0_2, 0)))) = some (r1, r2, r3, r4) := h
 clear h
 replace H := Option.bind_eq_some_iff.mp H
 obtain ⟨t219, A30, H⟩ := H
 replace H : (if (t219.size : Int) > 8192 then (some (([] : List (S41)), (⟨#[]⟩ : ByteArray), false, 3)) else (some (l1, a0_1, a0_2, 0))) = some (r1, r2, r3, r4) := H
 have A3 := Aside0.mk A30
 clear A30
 by_cases c4 : (t219.size : Int) > 8192
 ·rw [if_pos c4] at H
  have c4b0 : decide (8192 < (t219.size : Int)) = true := decide_eq_true c4
  have c4b1 : decide (8192 < t219.size) = true := decide_eq_true (by omega)
  clear c4
  simp only [Option.some.injEq, Prod.mk.injEq] at H
  obtain ⟨rfl, rfl, rfl, rfl⟩ := H
  go_enter Tryd.func68, Tryd.ntmps68
  go_wp2_with (first | ((with_reducible refine gate_dst (N := 2) rfl ?_); refine box_event ?hg (N := 2) ?hd (cs := #[.slice A0_0 l0_0.length c0_0, .string a0_1, .bool a0_2]) (t := 24) ?hr ?_; (case hd => rfl); (case hg => rfl); (case hr => first | (go_simp; done) | (go_simp; rfl)); intro gb217 hg w5 hbox hb; have n0_ := Aside0.mk (Kd.R_below (kr HO1.out) hb); have n1_ := Aside0.mk (Kept.below (S := (fun k_ => P1_ k_)) (by repeat (first | (with_reducible first | exact HK.out | apply Kept.alloc | apply Kept.drewN | apply Kept.drew) | exact HK.out)) hb); have n2_ := Aside0.mk (below_step bl hb); have n3_ := Aside0.mk (hbox); have n4_ := Aside0.mk ((by rw [hg]; exact (by first | exact HK.out.1 | exact (show Kept w _ (fun k_ => P1_ k_) from by repeat (first | (with_reducible first | exact HK.out | apply Kept.alloc | apply Kept.drewN | apply Kept.drew) | exact HK.out)).1) : w.heap.size ≤ gb217)); have n5_ := Aside0.mk ((by rw [hg]; exact (below_size bl) : w0.heap.size ≤ gb217)); clear HO1; clear HK; clear HB; have HO1 := n0_; have HK := n1_; have HB := n2_; have BK217 := n3_; have GW217 := n4_; have GE217 := n5_; clear n0_ n1_ n2_ n3_ n4_ n5_; clear hb hbox hg) | ((with_reducible refine gate_dst (N := 4) rfl ?_); refine box_event ?hg (N := 4) ?hd (cs := #[.slice none 0 0, .string (⟨#[]⟩ : ByteArray), .bool false]) (t := 24) ?hr ?_; (case hd => rfl); (case hg => rfl); (case hr => first | (go_simp; done) | (go_simp; rfl)); intro gb218 hg w6 hbox hb; have n0_ := Aside0.mk (Kd.R_below (kr HO1.out) hb); have n1_ := Aside0.mk (kb BK217.out hb); have n2_ := Aside0.mk (Kept.below (S := (fun k_ => P1_ k_)) (by repeat (first | (with_reducible first | exact HK.out | apply Kept.alloc | apply Kept.drewN | apply Kept.drew | refine Kept.setCell ?_ (.inr GW217.out) _) | exact HK.out)) hb); have n3_ := Aside0.mk (below_step bl hb); have n4_ := Aside0.mk (hbox); have n5_ := Aside0.mk ((by rw [hg]; exact (by first | exact HK.out.1 | exact (show Kept w _ (fun k_ => P1_ k_) from by repeat (first | (with_reducible first | exact HK.out | apply Kept.alloc | apply Kept.drewN | apply Kept.drew | refine Kept.setCell ?_ (.inr GW217.out) _) | exact HK.out)).1) : w.heap.size ≤ gb218)); have n6_ := Aside0.mk ((by rw [hg]; exact (below_size bl) : w0.heap.size ≤ gb218)); have n7_ := Aside0.mk ((by rw [hg]; exact Nat.ne_of_lt (blk_lt (bk BK217.out)) : gb217 ≠ gb218)); have n8_ := Aside0.mk ((by rw [hg]; exact Nat.ne_of_gt (blk_lt (bk BK217.out)) : gb218 ≠ gb217)); clear HO1; clear BK217; clear HK; clear HB; have HO1 := n0_; have BK217 := n1_; have HK := n2_; have HB := n3_; have BK218 := n4_; have GW218 := n5_; have GE218 := n6_; have NB217_218 := n7_; have NB218_217 := n8_; clear n0_ n1_ n2_ n3_ n4_ n5_ n6_ n7_ n8_; clear hb hbox hg; obtain ⟨Ao7, co7, eo7⟩ := Kd.R_slice HO1.out; subst eo7; have hnb8 := NB217_218.out; have hnc8 := NB218_217.out; have hcz9_0 : w6.cell? ⟨gb217, 0, none⟩ = some (.slice A0_0 l0_0.length c0_0) := (blk_cell BK217.out 0).trans rfl; have hcz9_1 : w6.cell? ⟨gb217, 1, none⟩ = some (.string a0_1) := (blk_cell BK217.out 1).trans rfl; have hcz9_2 : w6.cell? ⟨gb217, 2, none⟩ = some (.bool a0_2) := (blk_cell BK217.out 2).trans rfl; have hfz9_0 := blk_frozen BK217.out 0; have hfz9_1 := blk_frozen BK217.out 1; have hfz9_2 := blk_frozen BK217.out 2) | ((with_reducible refine gate_callee (f := 25) rfl ?_); refine goesL_ (some 9) rfl rfl Tryd.func25 (by kernel_rfl) rfl #[.agg #[.slice Ao7 l1.length co7, .string a0_1, .bool a0_2]] rfl ml ?_; (with_reducible refine (head_Message_Text.calls _ _ l1 a0_1 a0_2 t219 _ ?side1 ?side2 A3.out).mono ?_); (case side1 => refine (Kd.R_reads' (e := 41) (base := w0.heap.size) (ok := fun k_ => (P1_ k_ ∨ w.heap.size ≤ k_)) (n := l1.length) (c := co7) ?_).2.2; exact (by (with_reducible repeat (first | apply Kd.R_alloc | apply Kd.R_drewN | apply Kd.R_drew)); exact (Kd.R_mono (Kd.R_far (p := ⟨gb217, 0, none⟩) (Kd.R_types HO1.out BK217.out (by decide)) (fun _ hk => hk.2) (.slice Ao7 l1.length co7)) (fun _ h_ => h_.1)))); (case side2 => exact (Kd.R_reads' HO1.out).2.1); rintro e w10 ⟨rfl, hb⟩; refine ⟨_, rfl, ?_⟩; have n0_ := Aside0.mk (Kd.R_below (by (with_reducible repeat (first | apply Kd.R_alloc | apply Kd.R_drewN | apply Kd.R_drew)); exact (Kd.R_mono (Kd.R_far (p := ⟨gb217, 0, none⟩) (Kd.R_types HO1.out BK217.out (by decide)) (fun _ hk => hk.2) (.slice Ao7 l1.length co7)) (fun _ h_ => h_.1))) hb); have n1_ := Aside0.mk (blk_below (g := gb217) (o := .cells #[.slice Ao7 l1.length co7, .string a0_1, .bool a0_2] 24 (0, 0)) (by (with_reducible repeat (first | refine blk_drewN ?_ _ | refine blk_drew ?_ | refine blk_alloc ?_ _)); refine blk_put (cs := #[.slice A0_0 l0_0.length c0_0, .string a0_1, .bool a0_2]) ?_ 0 _ rfl; (with_reducible repeat (first | refine blk_drewN ?_ _ | refine blk_drew ?_ | refine blk_alloc ?_ _)); exact BK217.out) hb); have n2_ := Aside0.mk (kb BK218.out hb); have n3_ := Aside0.mk (Kept.below (S := (fun k_ => P1_ k_)) (by repeat (first | (with_reducible first | exact HK.out | apply Kept.alloc | apply Kept.drewN | apply Kept.drew | refine Kept.setCell ?_ (.inr GW217.out) _ | refine Kept.setCell ?_ (.inr GW218.out) _) | exact HK.out)) hb); have n4_ := Aside0.mk (below_step bl hb); clear HO1; clear BK217; clear BK218; clear HK; clear HB; have HO1 := n0_; have BK217 := n1_; have BK218 := n2_; have HK := n3_; have HB := n4_; clear n0_ n1_ n2_ n3_ n4_; (try clear hb); (try clear hb2); (try clear hk); (try clear hi); have hcz11_0 : w10.cell? ⟨gb218, 0, none⟩ = some (.slice none 0 0) := (blk_cell BK218.out 0).trans rfl; have hcz11_1 : w10.cell? ⟨gb218, 1, none⟩ = some (.string (⟨#[]⟩ : ByteArray)) := (blk_cell BK218.out 1).trans rfl; have hcz11_2 : w10.cell? ⟨gb218, 2, none⟩ = some (.bool false) := (blk_cell BK218.out 2).trans rfl; have hfz11_0 := blk_frozen BK218.out 0; have hfz11_1 := blk_frozen BK218.out 1; have hfz11_2 := blk_frozen BK218.out 2))
  refine bodyPost_ret (results_ct rfl _ _ gb218 24 #[.slice none 0 0, .string (⟨#[]⟩ : ByteArray), .bool false] (0, 0) _ rfl (by (with_reducible repeat (first | refine blk_drewN ?_ _ | refine blk_drew ?_ | refine blk_alloc ?_ _)); refine blk_put (cs := #[.slice none 0 0, .string (⟨#[]⟩ : ByteArray), .bool false]) ?_ 2 _ rfl; (with_reducible repeat (first | refine blk_drewN ?_ _ | refine blk_drew ?_ | refine blk_alloc ?_ _)); refine blk_put (cs := #[.slice none 0 0, .string (⟨#[]⟩ : ByteArray), .bool false]) ?_ 1 _ rfl; (with_reducible repeat (first | refine blk_drewN ?_ _ | refine blk_drew ?_ | refine blk_alloc ?_ _)); refine blk_put (cs := #[.slice none 0 0, .string (⟨#[]⟩ : ByteArray), .bool false]) ?_ 0 _ rfl; (with_reducible repeat (first | refine blk_drewN ?_ _ | refine blk_drew ?_ | refine blk_alloc ?_ _)); exact BK218.out) Tryd.underlying24 rfl (by kernel_rfl)) rfl ?_
  exact ⟨_, by first | rfl | (simp [errW_none, errW_some] <;> rfl) | (simp [*, errW_none, errW_some] <;> rfl), by first | exact Kd.R_nil _ _ _ _ _ | exact Kd.N_nil _ _ _ _ _ | exact Kd.V_nil _ _ _ _ _ | exact Kd.Q_nil _ _ _ _ _ | exact Kd.S_nil _ _ _ _ _, by repeat (first | (with_reducible first | exact HB.out | apply below_alloc | apply pw_below_drewN | apply below_drew1 | refine below_set ?_ GE217.out | refine below_set ?_ GE218.out) | exact HB.out), by repeat (first | (with_reducible first | exact HK.out | apply Kept.alloc | apply Kept.drewN | apply Kept.drew | refine Kept.setCell ?_ (.inr GW217.out) _ | refine Kept.setCell ?_ (.inr GW218.out) _) | exact HK.out)⟩
 ·rw [if_neg c4] at H
  have c4b0 : decide (8192 < (t219.size : Int)) = false := decide_eq_false c4
  have c4b1 : decide (8192 < t219.size) = false := decide_eq_false (by omega)
  clear c4
  simp only [Option.some.injEq, Prod.mk.injEq] at H
  obtain ⟨rfl, rfl, rfl, rfl⟩ := H
  go_enter Tryd.func68, Tryd.ntmps68
  go_wp2_with (first | ((with_reducible refine gate_dst (N := 2) rfl ?_); refine box_event ?hg (N := 2) ?hd (cs := #[.slice A0_0 l0_0.length c0_0, .string a0_1, .bool a0_2]) (t := 24) ?hr ?_; (case hd => rfl); (case hg => rfl); (case hr => first | (go_simp; done) | (go_simp; rfl)); intro gb217 hg w12 hbox hb; have n0_ := Aside0.mk (Kd.R_below (kr HO1.out) hb); have n1_ := Aside0.mk (Kept.below (S := (fun k_ => P1_ k_)) (by repeat (first | (with_reducible first | exact HK.out | apply Kept.alloc | apply Kept.drewN | apply Kept.drew) | exact HK.out)) hb); have n2_ := Aside0.mk (below_step bl hb); have n3_ := Aside0.mk (hbox); have n4_ := Aside0.mk ((by rw [hg]; exact (by first | exact HK.out.1 | exact (show Kept w _ (fun k_ => P1_ k_) from by repeat (first | (with_reducible first | exact HK.out | apply Kept.alloc | apply Kept.drewN | apply Kept.drew) | exact HK.out)).1) : w.heap.size ≤ gb217)); have n5_ := Aside0.mk ((by rw [hg]; exact (below_size bl) : w0.heap.size ≤ gb217)); clear HO1; clear HK; clear HB; have HO1 := n0_; have HK := n1_; have HB := n2_; have BK217 := n3_; have GW217 := n4_; have GE217 := n5_; clear n0_ n1_ n2_ n3_ n4_ n5_; clear hb hbox hg) | ((with_reducible refine gate_dst (N := 4) rfl ?_); refine box_event ?hg (N := 4) ?hd (cs := #[.slice none 0 0, .string (⟨#[]⟩ : ByteArray), .bool false]) (t := 24) ?hr ?_; (case hd => rfl); (case hg => rfl); (case hr => first | (go_simp; done) | (go_simp; rfl)); intro gb218 hg w13 hbox hb; have n0_ := Aside0.mk (Kd.R_below (kr HO1.out) hb); have n1_ := Aside0.mk (kb BK217.out hb); have n2_ := Aside0.mk (Kept.below (S := (fun k_ => P1_ k_)) (by repeat (first | (with_reducible first | exact HK.out | apply Kept.alloc | apply Kept.drewN | apply Kept.drew | refine Kept.setCell ?_ (.inr GW217.out) _) | exact HK.out)) hb); have n3_ := Aside0.mk (below_step bl hb); have n4_ := Aside0.mk (hbox); have n5_ := Aside0.mk ((by rw [hg]; exact (by first | exact HK.out.1 | exact (show Kept w _ (fun k_ => P1_ k_) from by repeat (first | (with_reducible first | exact HK.out | apply Kept.alloc | apply Kept.drewN | apply Kept.drew | refine Kept.setCell ?_ (.inr GW217.out) _) | exact HK.out)).1) : w.heap.size ≤ gb218)); have n6_ := Aside0.mk ((by rw [hg]; exact (below_size bl) : w0.heap.size ≤ gb218)); have n7_ := Aside0.mk ((by rw [hg]; exact Nat.ne_of_lt (blk_lt (bk BK217.out)) : gb217 ≠ gb218)); have n8_ := Aside0.mk ((by rw [hg]; exact Nat.ne_of_gt (blk_lt (bk BK217.out)) : gb218 ≠ gb217)); clear HO1; clear BK217; clear HK; clear HB; have HO1 := n0_; have BK217 := n1_; have HK := n2_; have HB := n3_; have BK218 := n4_; have GW218 := n5_; have GE218 := n6_; have NB217_218 := n7_; have NB218_217 := n8_; clear n0_ n1_ n2_ n3_ n4_ n5_ n6_ n7_ n8_; clear hb hbox hg; obtain ⟨Ao14, co14, eo14⟩ := Kd.R_slice HO1.out; subst eo14; have hnb15 := NB217_218.out; have hnc15 := NB218_217.out; have hcz16_0 : w13.cell? ⟨gb217, 0, none⟩ = some (.slice A0_0 l0_0.length c0_0) := (blk_cell BK217.out 0).trans rfl; have hcz16_1 : w13.cell? ⟨gb217, 1, none⟩ = some (.string a0_1) := (blk_cell BK217.out 1).trans rfl; have hcz16_2 : w13.cell? ⟨gb217, 2, none⟩ = some (.bool a0_2) := (blk_cell BK217.out 2).trans rfl; have hfz16_0 := blk_frozen BK217.out 0; have hfz16_1 := blk_frozen BK217.out 1; have hfz16_2 := blk_frozen BK217.out 2) | ((with_reducible refine gate_callee (f := 25) rfl ?_); refine goesL_ (some 9) rfl rfl Tryd.func25 (by kernel_rfl) rfl #[.agg #[.slice Ao14 l1.length co14, .string a0_1, .bool a0_2]] rfl ml ?_; (with_reducible refine (head_Message_Text.calls _ _ l1 a0_1 a0_2 t219 _ ?side1 ?side2 A3.out).mono ?_); (case side1 => refine (Kd.R_reads' (e := 41) (base := w0.heap.size) (ok := fun k_ => (P1_ k_ ∨ w.heap.size ≤ k_)) (n := l1.length) (c := co14) ?_).2.2; exact (by (with_reducible repeat (first | apply Kd.R_alloc | apply Kd.R_drewN | apply Kd.R_drew)); exact (Kd.R_mono (Kd.R_far (p := ⟨gb217, 0, none⟩) (Kd.R_types HO1.out BK217.out (by decide)) (fun _ hk => hk.2) (.slice Ao14 l1.length co14)) (fun _ h_ => h_.1)))); (case side2 => exact (Kd.R_reads' HO1.out).2.1); rintro e w17 ⟨rfl, hb⟩; refine ⟨_, rfl, ?_⟩; have n0_ := Aside0.mk (Kd.R_below (by (with_reducible repeat (first | apply Kd.R_alloc | apply Kd.R_drewN | apply Kd.R_drew)); exact (Kd.R_mono (Kd.R_far (p := ⟨gb217, 0, none⟩) (Kd.R_types HO1.out BK217.out (by decide)) (fun _ hk => hk.2) (.slice Ao14 l1.length co14)) (fun _ h_ => h_.1))) hb); have n1_ := Aside0.mk (blk_below (g := gb217) (o := .cells #[.slice Ao14 l1.length co14, .string a0_1, .bool a0_2] 24 (0, 0)) (by (with_reducible repeat (first | refine blk_drewN ?_ _ | refine blk_drew ?_ | refine blk_alloc ?_ _)); refine blk_put (cs := #[.slice A0_0 l0_0.length c0_0, .string a0_1, .bool a0_2]) ?_ 0 _ rfl; (with_reducible repeat (first | refine blk_drewN ?_ _ | refine blk_drew ?_ | refine blk_alloc ?_ _)); exact BK217.out) hb); have n2_ := Aside0.mk (kb BK218.out hb); have n3_ := Aside0.mk (Kept.below (S := (fun k_ => P1_ k_)) (by repeat (first | (with_reducible first | exact HK.out | apply Kept.alloc | apply Kept.drewN | apply Kept.drew | refine Kept.setCell ?_ (.inr GW217.out) _ | refine Kept.setCell ?_ (.inr GW218.out) _) | exact HK.out)) hb); have n4_ := Aside0.mk (below_step bl hb); clear HO1; clear BK217; clear BK218; clear HK; clear HB; have HO1 := n0_; have BK217 := n1_; have BK218 := n2_; have HK := n3_; have HB := n4_; clear n0_ n1_ n2_ n3_ n4_; (try clear hb); (try clear hb2); (try clear hk); (try clear hi); have hcz18_0 : w17.cell? ⟨gb217, 0, none⟩ = some (.slice Ao14 l1.length co14) := (blk_cell BK217.out 0).trans rfl; have hcz18_1 : w17.cell? ⟨gb217, 1, none⟩ = some (.string a0_1) := (blk_cell BK217.out 1).trans rfl; have hcz18_2 : w17.cell? ⟨gb217, 2, none⟩ = some (.bool a0_2) := (blk_cell BK217.out 2).trans rfl; have hfz18_0 := blk_frozen BK217.out 0; have hfz18_1 := blk_frozen BK217.out 1; have hfz18_2 := blk_frozen BK217.out 2; have hcz19_0 : w17.cell? ⟨gb218, 0, none⟩ = some (.slice none 0 0) := (blk_cell BK218.out 0).trans rfl; have hcz19_1 : w17.cell? ⟨gb218, 1, none⟩ = some (.string (⟨#[]⟩ : ByteArray)) := (blk_cell BK218.out 1).trans rfl; have hcz19_2 : w17.cell? ⟨gb218, 2, none⟩ = some (.bool false) := (blk_cell BK218.out 2).trans rfl; have hfz19_0 := blk_frozen BK218.out 0; have hfz19_1 := blk_frozen BK218.out 1; have hfz19_2 := blk_frozen BK218.out 2))
  refine bodyPost_ret (results_ct rfl _ _ gb218 24 #[.slice Ao14 l1.length co14, .string a0_1, .bool a0_2] (0, 0) _ rfl (by (with_reducible repeat (first | refine blk_drewN ?_ _ | refine blk_drew ?_ | refine blk_alloc ?_ _)); refine blk_put (cs := #[.slice Ao14 l1.length co14, .string a0_1, .bool false]) ?_ 2 _ rfl; (with_reducible repeat (first | refine blk_drewN ?_ _ | refine blk_drew ?_ | refine blk_alloc ?_ _)); refine blk_put (cs := #[.slice Ao14 l1.length co14, .string (⟨#[]⟩ : ByteArray), .bool false]) ?_ 1 _ rfl; (with_reducible repeat (first | refine blk_drewN ?_ _ | refine blk_drew ?_ | refine blk_alloc ?_ _)); refine blk_put (cs := #[.slice none 0 0, .string (⟨#[]⟩ : ByteArray), .bool false]) ?_ 0 _ rfl; (with_reducible repeat (first | refine blk_drewN ?_ _ | refine blk_drew ?_ | refine blk_alloc ?_ _)); exact BK218.out) Tryd.underlying24 rfl (by kernel_rfl)) rfl ?_
  exact ⟨_, by first | rfl | (simp [errW_none, errW_some] <;> rfl) | (simp [*, errW_none, errW_some] <;> rfl), by (with_reducible repeat (first | apply Kd.R_alloc | apply Kd.R_drewN | apply Kd.R_drew)); exact Kd.R_mono (Kd.R_far (p := ⟨gb218, 2, none⟩) (Kd.R_far (p := ⟨gb218, 1, none⟩) (Kd.R_far (p := ⟨gb218, 0, none⟩) (Kd.R_types HO1.out BK218.out (by decide)) (fun _ hk => hk.2) (.slice Ao14 l1.length co14)) (fun _ hk => hk.2) (.string a0_1)) (fun _ hk => hk.2) (.bool a0_2)) (fun _ hk => hk.1), by repeat (first | (with_reducible first | exact HB.out | apply below_alloc | apply pw_below_drewN | apply below_drew1 | refine below_set ?_ GE217.out | refine below_set ?_ GE218.out) | exact HB.out), by repeat (first | (with_reducible first | exact HK.out | apply Kept.alloc | apply Kept.drewN | apply Kept.drew | refine Kept.setCell ?_ (.inr GW217.out) _ | refine Kept.setCell ?_ (.inr GW218.out) _) | exact HK.out)⟩

/-! ### head_Message_Ahead: function 31 -/
def head_Message_Ahead.f (k : Nat) (l0_0 : List (S41)) (a0_1 : ByteArray) (a0_2 : Bool) (a1 : ByteArray) (a2 : ByteArray) : Option ((List (S41)) × ByteArray × Bool × Int) := (head_Lay.f k a1 a2).bind fun bt222 => (if bt222.2.2.2 = 0 then ((some (([(⟨bt222.1, bt222.2.1, bt222.2.2.1⟩ : S41)] : List (S41)) : List (S41))).bind fun y227 => (if y227.length + l0_0.length < 2932031007402 then ((head_Message_with.f l0_0 a0_1 a0_2 (y227 ++ l0_0)).bind fun bt233 => (some (bt233.1, bt233.2.1, bt233.2.2.1, bt233.2.2.2))) else (none))) else (some (([] : List (S41)), (⟨#[]⟩ : ByteArray), false, bt222.2.2.2)))
theorem head_Message_Ahead.mono : ∀ a0 a1 a2 a3 a4 k, LeO (head_Message_Ahead.f k a0 a1 a2 a3 a4) (head_Message_Ahead.f (k + 1) a0 a1 a2 a3 a4) := by
 intro a0 a1 a2 a3 a4 k
 unfold head_Message_Ahead.f
 repeat' first
   | (with_reducible exact head_Lay.mono _ _ _)
   | (with_reducible exact LeO.refl _)
   | (with_reducible exact LeO.none _)
   | (with_reducible refine LeO.ite ?_ ?_)
   | (with_reducible refine LeO.bind ?_ (fun _ => ?_))
   | exact head_Lay.mono _ _ _
   | exact LeO.none _
   | refine LeO.ite ?_ ?_
   | refine LeO.bind ?_ (fun _ => ?_)
def head_Message_Ahead.T4 : Bool × List (List Nat × List Nat) := (true, [([], []), ([], []), ([1], [1]), ([], []), ([3], [3]), ([2, 4], [2, 4]), ([0, 5, 5], [0, 5]), ([6], [6]), ([6], [6]), ([7, 6, 0, 1, 2, 3, 4, 5, 6, 7, 8], [7]), ([8, 9, 0, 1, 2, 3, 4, 5, 6, 7, 8, 9], [8])])
def head_Message_Ahead.B4 : List Nat := [0, 0, 2, 0, 8, 30, 63, 127, 127, 511, 1023]
theorem head_Message_Ahead.tab4 : rtab .any (opsOf Tryd.f31 4) = head_Message_Ahead.T4 := by kernel_rfl
theorem head_Message_Ahead.bits4 : waitsOk head_Message_Ahead.T4.2 head_Message_Ahead.B4 = true := by kernel_rfl
set_option maxHeartbeats 8000000 in
set_option maxRecDepth 100000 in
theorem head_Message_Ahead.calls (k : Nat) (A0_0 : Option Addr) (c0_0 : Nat) (l0_0 : List (S41)) (a0_1 : ByteArray) (a0_2 : Bool) (a1 : ByteArray) (a2 : ByteArray) (r1 : List (S41)) (r2 : ByteArray) (r3 : Bool) (r4 : Int) (w : World) (hr0_0 : Kd.C k41 w A0_0 l0_0.length l0_0) (hc0_0 : l0_0.length ≤ c0_0) (hG : Glob w) (h : head_Message_Ahead.f k l0_0 a0_1 a0_2 a1 a2 = some (r1, r2, r3, r4)) :
  Calls Tryd.prog 31 #[.agg #[.slice A0_0 l0_0.length c0_0, .string a0_1, .bool a0_2], .string a1, .string a2] w fun e w' => ∃ v0_ : Value, e = .returned (.tuple #[.agg #[v0_, .string r2, .bool r3], .int .i64 r4]) ∧ Kd.R k41 41 w' w.heap.size (fun _ => True) v0_ r1 ∧ Below w.heap.size w w' := by
 have hu24 := Tryd.underlying24
 have hu41 := Tryd.underlying41
 have HR0_0 := Aside0.mk hr0_0
 have HC0_0 := Aside0.mk hc0_0
 clear hr0_0 hc0_0
 have HB := Aside0.mk (Below.refl w.heap.size w)
 have HG := Aside0.mk hG
 clear hG
 have H : ((head_Lay.f k a1 a2).bind fun bt222 => (if bt222.2.2.2 = 0 then ((some (([(⟨bt222.1, bt222.2.1, bt222.2.2.1⟩ : S41)] : List (S41)) : List (S41))).bind fun y227 => (if y227.length + l0_0.length < 2932031007402 then ((head_Message_with.f l0_0 a0_1 a0_2 (y227 ++ l0_0)).bind fun bt233 => (some (bt233.1, bt233.2.1, bt233.2.2.1, bt233.2.2.2))) else (none))) else (some (([] : List (S41)), (⟨#[]⟩ : ByteArray), false, bt222.2.2.2)))) = some (r1, r2, r3, r4) := h
 clear h
 replace H := Option.bind_eq_some_iff.mp H
 obtain ⟨⟨t222, t223, t224, t225⟩, A40, H⟩ := H
 replace H : (if t225 = 0 then ((some (([(⟨t222, t223, t224⟩ : S41)] : List (S41)) : List (S41))).bind fun y227 => (if y227.length + l0_0.length < 2932031007402 then ((head_Message_with.f l0_0 a0_1 a0_2 (y227 ++ l0_0)).bind fun bt233 => (some (bt233.1, bt233.2.1, bt233.2.2.1, bt233.2.2.2))) else (none))) else (some (([] : List (S41)), (⟨#[]⟩ : ByteArray), false, t225))) = some (r1, r2, r3, r4) := H
 have A4 := Aside0.mk A40
 clear A40
 by_cases c5 : t225 = 0
 ·rw [if_pos c5] at H
  have c5b0 : (t225 == 0) = true := beq_iff_eq.mpr c5
  have c5b1 : (t225 != 0) = false := bne_eq_false_iff_eq.mpr c5
  clear c5
  obtain ⟨y227, hy227⟩ : ∃ y_ : List (S41), y_ = (([(⟨t222, t223, t224⟩ : S41)] : List (S41))) := ⟨_, rfl⟩
  replace H : (if y227.length + l0_0.length < 2932031007402 then ((head_Message_with.f l0_0 a0_1 a0_2 (y227 ++ l0_0)).bind fun bt233 => (some (bt233.1, bt233.2.1, bt233.2.2.1, bt233.2.2.2))) else (none)) = some (r1, r2, r3, r4) := by first | (rw [hy227]; with_reducible exact H) | (have H2_ := (Option.bind_some _ _).symm.trans H; rw [hy227]; with_reducible exact H2_) | (have H2_ := (Option.bind_some _ _).symm.trans H; with_reducible exact H2_) | with_reducible exact H | (rw [hy227]; exact H) | exact H
  have Ny227 := Aside0.mk hy227
  clear hy227
  by_cases c6 : y227.length + l0_0.length < 2932031007402
  ·rw [if_pos c6] at H
   have LMc6 := Aside0.mk c6
   clear c6
   obtain ⟨y230, hy230⟩ : ∃ y_ : List (S41), y_ = (y227 ++ l0_0) := ⟨_, rfl⟩
   replace H : ((head_Message_with.f l0_0 a0_1 a0_2 y230).bind fun bt233 => (some (bt233.1, bt233.2.1, bt233.2.2.1, bt233.2.2.2))) = some (r1, r2, r3, r4) := by first | (rw [hy230]; with_reducible exact H) | (have H2_ := (Option.bind_some _ _).symm.trans H; rw [hy230]; with_reducible exact H2_) | (have H2_ := (Option.bind_some _ _).symm.trans H; with_reducible exact H2_) | with_reducible exact H | (rw [hy230]; exact H) | exact H
   have Ny230 := Aside0.mk hy230
   clear hy230
   replace H := Option.bind_eq_some_iff.mp H
   obtain ⟨⟨t233, t236, t237, t238⟩, A70, H⟩ := H
   replace H : (some (t233, t236, t237, t238)) = some (r1, r2, r3, r4) := H
   have A7 := Aside0.mk A70
   clear A70
   simp only [Option.some.injEq, Prod.mk.injEq] at H
   obtain ⟨rfl, rfl, rfl, rfl⟩ := H
   go_enter Tryd.func31, Tryd.ntmps31
   try go_wp2_with (first | ((with_reducible refine gate_dst (N := 3) rfl ?_); refine box_event ?hg (N := 3) ?hd (cs := #[.slice A0_0 l0_0.length c0_0, .string a0_1, .bool a0_2]) (t := 24) ?hr ?_; (case hd => rfl); (case hg => rfl); (case hr => first | (go_simp; done) | (go_simp; rfl)); intro gb220 hg w8 hbox hb; have n0_ := Aside0.mk (below_step bl hb); have n1_ := Aside0.mk (hbox); have n2_ := Aside0.mk ((by rw [hg]; exact (below_size bl) : w.heap.size ≤ gb220)); have n3_ := Aside0.mk ((by rw [hg]; exact (below_size bl) : w.heap.size ≤ gb220)); clear HB; have HB := n0_; have BK220 := n1_; have GW220 := n2_; have GE220 := n3_; clear n0_ n1_ n2_ n3_; clear hb hbox hg) | ((with_reducible refine gate_dst (N := 6) rfl ?_); refine box_event ?hg (N := 6) ?hd (cs := #[.slice none 0 0, .string (⟨#[]⟩ : ByteArray), .bool false]) (t := 24) ?hr ?_; (case hd => rfl); (case hg => rfl); (case hr => first | (go_simp; done) | (go_simp; rfl)); intro gb221 hg w9 hbox hb; have n0_ := Aside0.mk (kb BK220.out hb); have n1_ := Aside0.mk (below_step bl hb); have n2_ := Aside0.mk (hbox); have n3_ := Aside0.mk ((by rw [hg]; exact (below_size bl) : w.heap.size ≤ gb221)); have n4_ := Aside0.mk ((by rw [hg]; exact (below_size bl) : w.heap.size ≤ gb221)); have n5_ := Aside0.mk ((by rw [hg]; exact Nat.ne_of_lt (blk_lt (bk BK220.out)) : gb220 ≠ gb221)); have n6_ := Aside0.mk ((by rw [hg]; exact Nat.ne_of_gt (blk_lt (bk BK220.out)) : gb221 ≠ gb220)); clear BK220; clear HB; have BK220 := n0_; have HB := n1_; have BK221 := n2_; have GW221 := n3_; have GE221 := n4_; have NB220_221 := n5_; have NB221_220 := n6_; clear n0_ n1_ n2_ n3_ n4_ n5_ n6_; clear hb hbox hg) | ((with_reducible refine gate_callee (f := 14) rfl ?_); refine goesL_ (some 13) rfl rfl Tryd.func14 (by kernel_rfl) rfl #[.string a1, .string a2] rfl ml ?_; (with_reducible refine (head_Lay.calls k a1 a2 t222 t223 t224 t225 _ ?side1 A4.out).mono ?_); (case side1 => exact Glob.below HG.out bl); rintro e w10 ⟨rfl, hb⟩; refine ⟨_, rfl, ?_⟩; have n0_ := Aside0.mk (kb BK220.out hb); have n1_ := Aside0.mk (kb BK221.out hb); have n2_ := Aside0.mk (below_step bl hb); clear BK220; clear BK221; clear HB; have BK220 := n0_; have BK221 := n1_; have HB := n2_; clear n0_ n1_ n2_; (try clear hb); (try clear hb2); (try clear hk); (try clear hi)) | ((with_reducible refine gate_dst (N := 8) rfl ?_); refine box_event ?hg (N := 8) ?hd (cs := #[.string (⟨#[]⟩ : ByteArray), .string (⟨#[]⟩ : ByteArray), .string (⟨#[]⟩ : ByteArray)]) (t := 41) ?hr ?_; (case hd => rfl); (case hg => rfl); (case hr => first | (go_simp; done) | (go_simp; rfl)); intro gb226 hg w11 hbox hb; have n0_ := Aside0.mk (kb BK220.out hb); have n1_ := Aside0.mk (kb BK221.out hb); have n2_ := Aside0.mk (below_step bl hb); have n3_ := Aside0.mk (hbox); have n4_ := Aside0.mk ((by rw [hg]; exact (below_size bl) : w.heap.size ≤ gb226)); have n5_ := Aside0.mk ((by rw [hg]; exact (below_size bl) : w.heap.size ≤ gb226)); have n6_ := Aside0.mk ((by rw [hg]; exact Nat.ne_of_lt (blk_lt (bk BK220.out)) : gb220 ≠ gb226)); have n7_ := Aside0.mk ((by rw [hg]; exact Nat.ne_of_gt (blk_lt (bk BK220.out)) : gb226 ≠ gb220)); have n8_ := Aside0.mk ((by rw [hg]; exact Nat.ne_of_lt (blk_lt (bk BK221.out)) : gb221 ≠ gb226)); have n9_ := Aside0.mk ((by rw [hg]; exact Nat.ne_of_gt (blk_lt (bk BK221.out)) : gb226 ≠ gb221)); clear BK220; clear BK221; clear HB; have BK220 := n0_; have BK221 := n1_; have HB := n2_; have BK226 := n3_; have GW226 := n4_; have GE226 := n5_; have NB220_226 := n6_; have NB226_220 := n7_; have NB221_226 := n8_; have NB226_221 := n9_; clear n0_ n1_ n2_ n3_ n4_ n5_ n6_ n7_ n8_ n9_; clear hb hbox hg; have hnb12 := NB226_220.out; have hnc12 := NB220_226.out; have hnb13 := NB226_221.out; have hnc13 := NB221_226.out; have hcz14_0 : w11.cell? ⟨gb226, 0, none⟩ = some (.string (⟨#[]⟩ : ByteArray)) := (blk_cell BK226.out 0).trans rfl; have hcz14_1 : w11.cell? ⟨gb226, 1, none⟩ = some (.string (⟨#[]⟩ : ByteArray)) := (blk_cell BK226.out 1).trans rfl; have hcz14_2 : w11.cell? ⟨gb226, 2, none⟩ = some (.string (⟨#[]⟩ : ByteArray)) := (blk_cell BK226.out 2).trans rfl; have hfz14_0 := blk_frozen BK226.out 0; have hfz14_1 := blk_frozen BK226.out 1; have hfz14_2 := blk_frozen BK226.out 2))
   have n0_ : Aside0 ((((w11.setCell ⟨gb226, 0, none⟩ (.string t222)).setCell ⟨gb226, 1, none⟩ (.string t223)).setCell ⟨gb226, 2, none⟩ (.string t224)).heap[gb220]? = some (.cells #[.slice A0_0 l0_0.length c0_0, .string a0_1, .bool a0_2] 24 (0, 0))) := ⟨by (with_reducible repeat (first | refine blk_drewN ?_ _ | refine blk_drew ?_ | refine blk_alloc ?_ _)); refine blk_far ?_ NB220_226.out _; (with_reducible repeat (first | refine blk_drewN ?_ _ | refine blk_drew ?_ | refine blk_alloc ?_ _)); refine blk_far ?_ NB220_226.out _; (with_reducible repeat (first | refine blk_drewN ?_ _ | refine blk_drew ?_ | refine blk_alloc ?_ _)); refine blk_far ?_ NB220_226.out _; (with_reducible repeat (first | refine blk_drewN ?_ _ | refine blk_drew ?_ | refine blk_alloc ?_ _)); exact BK220.out⟩
   have n1_ : Aside0 ((((w11.setCell ⟨gb226, 0, none⟩ (.string t222)).setCell ⟨gb226, 1, none⟩ (.string t223)).setCell ⟨gb226, 2, none⟩ (.string t224)).heap[gb221]? = some (.cells #[.slice none 0 0, .string (⟨#[]⟩ : ByteArray), .bool false] 24 (0, 0))) := ⟨by (with_reducible repeat (first | refine blk_drewN ?_ _ | refine blk_drew ?_ | refine blk_alloc ?_ _)); refine blk_far ?_ NB221_226.out _; (with_reducible repeat (first | refine blk_drewN ?_ _ | refine blk_drew ?_ | refine blk_alloc ?_ _)); refine blk_far ?_ NB221_226.out _; (with_reducible repeat (first | refine blk_drewN ?_ _ | refine blk_drew ?_ | refine blk_alloc ?_ _)); refine blk_far ?_ NB221_226.out _; (with_reducible repeat (first | refine blk_drewN ?_ _ | refine blk_drew ?_ | refine blk_alloc ?_ _)); exact BK221.out⟩
   have n2_ : Aside0 ((((w11.setCell ⟨gb226, 0, none⟩ (.string t222)).setCell ⟨gb226, 1, none⟩ (.string t223)).setCell ⟨gb226, 2, none⟩ (.string t224)).heap[gb226]? = some (.cells #[.string t222, .string t223, .string t224] 41 (0, 0))) := ⟨by (with_reducible repeat (first | refine blk_drewN ?_ _ | refine blk_drew ?_ | refine blk_alloc ?_ _)); refine blk_put (cs := #[.string t222, .string t223, .string (⟨#[]⟩ : ByteArray)]) ?_ 2 _ rfl; (with_reducible repeat (first | refine blk_drewN ?_ _ | refine blk_drew ?_ | refine blk_alloc ?_ _)); refine blk_put (cs := #[.string t222, .string (⟨#[]⟩ : ByteArray), .string (⟨#[]⟩ : ByteArray)]) ?_ 1 _ rfl; (with_reducible repeat (first | refine blk_drewN ?_ _ | refine blk_drew ?_ | refine blk_alloc ?_ _)); refine blk_put (cs := #[.string (⟨#[]⟩ : ByteArray), .string (⟨#[]⟩ : ByteArray), .string (⟨#[]⟩ : ByteArray)]) ?_ 0 _ rfl; (with_reducible repeat (first | refine blk_drewN ?_ _ | refine blk_drew ?_ | refine blk_alloc ?_ _)); exact BK226.out⟩
   have n3_ : Aside0 (Below w.heap.size w (((w11.setCell ⟨gb226, 0, none⟩ (.string t222)).setCell ⟨gb226, 1, none⟩ (.string t223)).setCell ⟨gb226, 2, none⟩ (.string t224))) := ⟨by repeat (first | (with_reducible first | exact HB.out | apply below_alloc | apply pw_below_drewN | apply below_drew1 | refine below_set ?_ GE220.out | refine below_set ?_ GE221.out | refine below_set ?_ GE226.out) | exact HB.out)⟩
   (try clear BK220)
   (try clear BK221)
   (try clear BK226)
   (try clear HB)
   generalize (((w11.setCell ⟨gb226, 0, none⟩ (.string t222)).setCell ⟨gb226, 1, none⟩ (.string t223)).setCell ⟨gb226, 2, none⟩ (.string t224)) = w15 at n0_ n1_ n2_ n3_ ⊢
   have BK220 := n0_
   have BK221 := n1_
   have BK226 := n2_
   have HB := n3_
   clear n0_ n1_ n2_ n3_
   have n0_ := Aside0.mk (blk_drew BK220.out)
   have n1_ := Aside0.mk (blk_drew BK221.out)
   have n2_ := Aside0.mk (blk_drew BK226.out)
   have n3_ := Aside0.mk (below_drew1 HB.out)
   clear BK220
   clear BK221
   clear BK226
   clear HB
   have BK220 := n0_
   have BK221 := n1_
   have BK226 := n2_
   have HB := n3_
   clear n0_ n1_ n2_ n3_
   refine start_ (n := 11) (S := fun w' => w'.cell? ⟨gb220, 0, none⟩ = some (.slice A0_0 l0_0.length c0_0) ∧ w'.cell? ⟨gb220, 1, none⟩ = some (.string a0_1) ∧ w'.cell? ⟨gb220, 2, none⟩ = some (.bool a0_2) ∧ w'.cell? ⟨gb226, 0, none⟩ = some (.string t222) ∧ w'.cell? ⟨gb226, 1, none⟩ = some (.string t223) ∧ w'.cell? ⟨gb226, 2, none⟩ = some (.string t224)) (ds := []) #[false, false, false, false, false, false, false, false, false, false, false] (by kernel_rfl) rfl rfl ⟨(blk_cell BK220.out 0).trans rfl, (blk_cell BK220.out 1).trans rfl, (blk_cell BK220.out 2).trans rfl, (blk_cell BK226.out 0).trans rfl, (blk_cell BK226.out 1).trans rfl, (blk_cell BK226.out 2).trans rfl⟩ (fun hHeld => ?_); refine with_tabW head_Message_Ahead.tab4 head_Message_Ahead.bits4 (fun HT_ HW_ => ?_)
   generalize w15.drew = w16 at BK220 BK221 BK226 HB hHeld ⊢
   refine pure_ (i := 3) (N := some 23) (v := ?_) (a' := ?_) #[false, false, false, true, false, false, false, false, false, false, false] rfl rfl (any_of HT_.out (by kernel_rfl)) (fun _ _ _ h => h) (Or.inl ⟨by rfl, ?_⟩) ?_ ?_
   rotate_left
   ·intro w'
    go_simp
    with_reducible rfl
   rotate_left
   ·simp only [Act.put, List.setIfInBounds_toArray, List.set_cons_zero, List.set_cons_succ, i64_w, i32_w]
    rfl
   refine take_ (i := 0) (N := some 20) (v := ?_) (a' := ?_) #[true, false, false, true, false, false, false, false, false, false, false] rfl rfl (take_ofW HT_.out HW_.out (by kernel_rfl)) (fun _ _ _ h => h) (Or.inl ⟨by rfl, ?_⟩) hHeld ?_ ?_
   rotate_left
   ·rintro w' ⟨s0, s1, s2, s3, s4, s5⟩
    go_simp
    with_reducible rfl
   rotate_left
   ·simp only [Act.put, List.setIfInBounds_toArray, List.set_cons_zero, List.set_cons_succ, i64_w, i32_w]
    rfl
   refine take_ (i := 1) (N := some 21) (v := ?_) (a' := ?_) #[true, true, false, true, false, false, false, false, false, false, false] rfl rfl (take_ofW HT_.out HW_.out (by kernel_rfl)) (fun _ _ _ h => h) (Or.inl ⟨by rfl, ?_⟩) hHeld ?_ ?_
   rotate_left
   ·rintro w' ⟨s0, s1, s2, s3, s4, s5⟩
    go_simp
    with_reducible rfl
   rotate_left
   ·simp only [Act.put, List.setIfInBounds_toArray, List.set_cons_zero, List.set_cons_succ, i64_w, i32_w]
    rfl
   refine take_ (i := 4) (N := some 24) (v := ?_) (a' := ?_) #[true, true, false, true, true, false, false, false, false, false, false] rfl rfl (take_ofW HT_.out HW_.out (by kernel_rfl)) (fun _ _ _ h => h) (Or.inl ⟨by rfl, ?_⟩) hHeld ?_ ?_
   rotate_left
   ·rintro w' ⟨s0, s1, s2, s3, s4, s5⟩
    go_simp
    with_reducible rfl
   rotate_left
   ·simp only [Act.put, List.setIfInBounds_toArray, List.set_cons_zero, List.set_cons_succ, i64_w, i32_w]
    rfl
   refine one_ (i := 2) (N := some 22) #[true, true, true, true, true, false, false, false, false, false, false] rfl rfl (one_of HT_.out (by kernel_rfl)) (by decide) (fun K hK => ?_)
   refine Kd.R_lit_step k41 _ 41 ?hg (N := 22) ?hd (xs := ([(⟨t222, t223, t224⟩ : S41)] : List (S41))) (inner := [.string t222, .string t223, .string t224]) (ok := fun _ => True) (okp := fun _ => True) ?hr ?hp (fun _ hk => hk) trivial (Below.refl _ _) (Nat.le_refl _) (by simp) ?_; (case hd => rfl); (case hg => rfl); (case hr => first | (go_simp; done) | (go_simp; rfl)); (case hp => exact (Reps.c3 (show Kd.M k41 _ _ _ (⟨t222, t223, t224⟩ : S41) [.string t222, .string t223, .string t224] from (k41_mkM _ _ _ (⟨t222, t223, t224⟩ : S41) )) (Reps.none _ _)))
   intro v228 w17 ho18 hb hg_ hnew_
   clear hg_ hnew_
   (first | rw [← Ny227.out] at ho18 | (simp only [Int.reduceToNat] at ho18; rw [← Ny227.out] at ho18))
   have n0_ := Aside0.mk (Kd.R_lower (Kd.R_newB ho18 (g := gb226) (o := .cells #[.string t222, .string t223, .string t224] 41 (0, 0)) (bk BK226.out)) (below_size bl))
   have n1_ := Aside0.mk (kb BK220.out hb)
   have n2_ := Aside0.mk (kb BK221.out hb)
   have n3_ := Aside0.mk (kb BK226.out hb)
   have n4_ := Aside0.mk (below_step bl hb)
   clear BK220
   clear BK221
   clear BK226
   clear HB
   have HO229 := n0_
   have BK220 := n1_
   have BK221 := n2_
   have BK226 := n3_
   have HB := n4_
   clear n0_ n1_ n2_ n3_ n4_
   clear hb ho18
   refine hK.out _ _ ⟨(blk_cell BK220.out 0).trans rfl, (blk_cell BK220.out 1).trans rfl, (blk_cell BK220.out 2).trans rfl, (blk_cell BK226.out 0).trans rfl, (blk_cell BK226.out 1).trans rfl, (blk_cell BK226.out 2).trans rfl⟩ (fun hHeld => ?_)
   clear hK K
   refine norm_ (a' := ?_) ?_ ?_
   rotate_left
   ·show Act.put _ (some 22) _ = _
    simp only [Act.put, List.setIfInBounds_toArray, List.set_cons_zero, List.set_cons_succ, i64_w, i32_w]
    rfl
   refine one_ (i := 5) (N := some 25) #[true, true, true, true, true, true, false, false, false, false, false] rfl rfl (one_of HT_.out (by kernel_rfl)) (by decide) (fun K hK => ?_)
   refine Kd.R_append_rows_step k41 (w0 := w) w.heap.size (by rfl) (.tmp 22) (.tmp 24) 22 41 (.agg #[(.string ⟨#[]⟩), (.string ⟨#[]⟩), (.string ⟨#[]⟩)]) 48 rfl Tryd.underlying22 info41 rfl (by decide) (by omega) v228 y227 l0_0 _ _ _ (fun k_ => k_ ≠ gb226) (fun _ => False) rfl rfl ?aO ?aR (fun _ _ h => h) (fun _ h => h.elim) ?aF ?aB ?aS ?aL ?_
   (case aR => repeat (first | exact (Kd.C_below HR0_0.out HB.out) | (with_reducible refine Kd.C_alloc ?_ _) | (with_reducible refine Kd.C_drewN ?_ _) | (with_reducible refine Kd.C_drew ?_)))
   (case aB => exact bl)
   (case aF => exact (fun k_ hk => Kd.freshB (g := gb226) (o := .cells #[.string t222, .string t223, .string t224] 41 (0, 0)) (bk BK226.out) k_ hk))
   (case aO => exact (by (with_reducible repeat (first | apply Kd.R_alloc | apply Kd.R_drewN | apply Kd.R_drew)); exact Kd.R_mono HO229.out (fun _ hk => hk.2)))
   (case aS => exact (below_size bl))
   (case aL => have := LMc6.out; omega)
   intro v231 w19 ho hb hg hat
   rw [← Ny230.out] at ho
   have n0_ := Aside0.mk (blk_grown (g := gb220) (o := .cells #[.slice A0_0 l0_0.length c0_0, .string a0_1, .bool a0_2] 24 (0, 0)) (bk BK220.out) hg (Kd.R_ne HO229.out BK220.out (by decide)))
   have n1_ := Aside0.mk (blk_grown (g := gb221) (o := .cells #[.slice none 0 0, .string (⟨#[]⟩ : ByteArray), .bool false] 24 (0, 0)) (bk BK221.out) hg (Kd.R_ne HO229.out BK221.out (by decide)))
   have n2_ := Aside0.mk (blk_grown (g := gb226) (o := .cells #[.string t222, .string t223, .string t224] 41 (0, 0)) (bk BK226.out) hg (Kd.R_away HO229.out (fun _ hk => hk.2)))
   have n3_ := Aside0.mk (hb)
   have n4_ := Aside0.mk (ho)
   clear BK220
   clear BK221
   clear BK226
   clear HB
   clear HO229
   have BK220 := n0_
   have BK221 := n1_
   have BK226 := n2_
   have HB := n3_
   have HO232 := n4_
   clear n0_ n1_ n2_ n3_ n4_
   clear ho hb hg hat
   obtain ⟨Ao20, co20, eo20⟩ := Kd.R_slice HO232.out
   (first | subst eo20 | (injection eo20 with f1_ f2_ f3_; have f4_ := f1_.symm; have f5_ := f3_.symm; clear f1_ f2_ f3_; subst f4_; subst f5_))
   refine hK.out _ _ ⟨(blk_cell BK220.out 0).trans rfl, (blk_cell BK220.out 1).trans rfl, (blk_cell BK220.out 2).trans rfl, (blk_cell BK226.out 0).trans rfl, (blk_cell BK226.out 1).trans rfl, (blk_cell BK226.out 2).trans rfl⟩ (fun hHeld => ?_)
   clear hK K
   refine norm_ (a' := ?_) ?_ ?_
   rotate_left
   ·show Act.put _ (some 25) _ = _
    simp only [Act.put, List.setIfInBounds_toArray, List.set_cons_zero, List.set_cons_succ, i64_w, i32_w]
    rfl
   refine one_ (i := 6) (N := some 26) #[true, true, true, true, true, true, true, false, false, false, false] rfl rfl (one_of HT_.out (by kernel_rfl)) (by decide) (fun K hK => ?_)
   refine goes_ Tryd.func68 (by kernel_rfl) rfl #[.agg #[.slice A0_0 l0_0.length c0_0, .string a0_1, .bool a0_2], .slice Ao20 y230.length co20] (by rfl) rfl rfl ml ?_
   with_reducible refine (head_Message_with.calls _ _ l0_0 a0_1 a0_2 (fun k_ => some k_ = (.slice Ao20 y230.length co20 : Value).ownBlock) (.slice Ao20 y230.length co20) y230 t233 t236 t237 t238 w _ ?side1 ?side2 ?side3 ?side4 A7.out).mono ?_
   (case side1 => repeat (first | (with_reducible first | exact HB.out | apply below_alloc | apply pw_below_drewN | apply below_drew1 | refine below_set ?_ GE220.out | refine below_set ?_ GE221.out | refine below_set ?_ GE226.out) | exact HB.out))
   (case side2 => exact Kd.C_kept_came k41_heap HR0_0.out bl (fun k_ hs_ => (fun e_ => Kd.R_base HO232.out k_ e_.symm) hs_))
   (case side3 => exact HC0_0.out)
   (case side4 => exact Kd.R_tight rfl HO232.out)
   rintro e w21 ⟨v234, rfl, ho0, hb, hkp⟩
   refine ⟨_, rfl, ?_⟩
   have n0_ := Aside0.mk (blk_kept (bk BK220.out) hkp (fun hs_ => (fun e_ => (Kd.R_ne HO232.out BK220.out (by decide)) e_) hs_))
   have n1_ := Aside0.mk (blk_kept (bk BK221.out) hkp (fun hs_ => (fun e_ => (Kd.R_ne HO232.out BK221.out (by decide)) e_) hs_))
   have n2_ := Aside0.mk (blk_kept (bk BK226.out) hkp (fun hs_ => (fun e_ => (Kd.R_away HO232.out (fun _ hk => hk)) e_) hs_))
   have n3_ := Aside0.mk (Kd.R_mono (ok' := fun k_ => k_ ≠ gb226) ho0 (fun k_ hk_ => Or.elim hk_ (fun hs_ => fun e_ => (Kd.R_away HO232.out (fun _ hk => hk)) (by rw [← e_]; exact hs_)) (fun hn_ => (Kd.freshB (g := gb226) (o := .cells #[.string t222, .string t223, .string t224] 41 (0, 0)) (bk BK226.out) k_ hn_))))
   have n4_ := Aside0.mk (hb)
   clear BK220
   clear BK221
   clear BK226
   clear HB
   clear HO232
   have BK220 := n0_
   have BK221 := n1_
   have BK226 := n2_
   have HO235 := n3_
   have HB := n4_
   clear n0_ n1_ n2_ n3_ n4_
   (try clear hb)
   (try clear hkp)
   (try clear ho0)
   obtain ⟨Ao22, co22, eo22⟩ := Kd.R_slice HO235.out
   (first | subst eo22 | (injection eo22 with f1_ f2_ f3_; have f4_ := f1_.symm; have f5_ := f3_.symm; clear f1_ f2_ f3_; subst f4_; subst f5_))
   refine hK.out _ _ ⟨(blk_cell BK220.out 0).trans rfl, (blk_cell BK220.out 1).trans rfl, (blk_cell BK220.out 2).trans rfl, (blk_cell BK226.out 0).trans rfl, (blk_cell BK226.out 1).trans rfl, (blk_cell BK226.out 2).trans rfl⟩ (fun hHeld => ?_)
   clear hK K
   refine norm_ (a' := ?_) ?_ ?_
   rotate_left
   ·show Act.put _ (some 26) _ = _
    simp only [Act.put, List.setIfInBounds_toArray, List.set_cons_zero, List.set_cons_succ, i64_w, i32_w]
    rfl
   refine pure_ (i := 7) (N := some 27) (v := ?_) (a' := ?_) #[true, true, true, true, true, true, true, true, false, false, false] rfl rfl (any_of HT_.out (by kernel_rfl)) (fun _ _ _ h => h) (Or.inl ⟨by rfl, ?_⟩) ?_ ?_
   rotate_left
   ·intro w'
    go_simp
    with_reducible rfl
   rotate_left
   ·simp only [Act.put, List.setIfInBounds_toArray, List.set_cons_zero, List.set_cons_succ, i64_w, i32_w]
    rfl
   refine pure_ (i := 8) (N := some 28) (v := ?_) (a' := ?_) #[true, true, true, true, true, true, true, true, true, false, false] rfl rfl (any_of HT_.out (by kernel_rfl)) (fun _ _ _ h => h) (Or.inl ⟨by rfl, ?_⟩) ?_ ?_
   rotate_left
   ·intro w'
    go_simp
    with_reducible rfl
   rotate_left
   ·simp only [Act.put, List.setIfInBounds_toArray, List.set_cons_zero, List.set_cons_succ, i64_w, i32_w]
    rfl
   refine one_ (i := 9) (N := none) #[true, true, true, true, true, true, true, true, true, true, false] rfl rfl (one_of HT_.out (by kernel_rfl)) (by decide) (fun K hK => ?_)
   have hs23 : w21.cell? ⟨gb221, 0, none⟩ = some (.slice none 0 0) := (blk_cell BK221.out 0).trans rfl
   have hfs23 := blk_frozen BK221.out 0
   have hns23_0 := NB220_221.out
   have hns23_2 := NB226_221.out
   have hms23_0 := NB221_220.out
   have hms23_2 := NB221_226.out
   have hs24 : w21.cell? ⟨gb221, 1, none⟩ = some (.string (⟨#[]⟩ : ByteArray)) := (blk_cell BK221.out 1).trans rfl
   have hfs24 := blk_frozen BK221.out 1
   have hns24_0 := NB220_221.out
   have hns24_2 := NB226_221.out
   have hms24_0 := NB221_220.out
   have hms24_2 := NB221_226.out
   have hs25 : w21.cell? ⟨gb221, 2, none⟩ = some (.bool false) := (blk_cell BK221.out 2).trans rfl
   have hfs25 := blk_frozen BK221.out 2
   have hns25_0 := NB220_221.out
   have hns25_2 := NB226_221.out
   have hms25_0 := NB221_220.out
   have hms25_2 := NB221_226.out
   refine skip_ (w1 := ?_) (by rfl) rfl ?_ ?_
   rotate_left
   ·go_simp
    rfl
   refine hK.out _ _ ⟨((cell_far (p := ⟨gb221, _, none⟩) NB220_221.out _).trans (((cell_far (p := ⟨gb221, _, none⟩) NB220_221.out _).trans (((cell_far (p := ⟨gb221, _, none⟩) NB220_221.out _).trans (hHeld.1)))))), ((cell_far (p := ⟨gb221, _, none⟩) NB220_221.out _).trans (((cell_far (p := ⟨gb221, _, none⟩) NB220_221.out _).trans (((cell_far (p := ⟨gb221, _, none⟩) NB220_221.out _).trans (hHeld.2.1)))))), ((cell_far (p := ⟨gb221, _, none⟩) NB220_221.out _).trans (((cell_far (p := ⟨gb221, _, none⟩) NB220_221.out _).trans (((cell_far (p := ⟨gb221, _, none⟩) NB220_221.out _).trans (hHeld.2.2.1)))))), ((cell_far (p := ⟨gb221, _, none⟩) NB226_221.out _).trans (((cell_far (p := ⟨gb221, _, none⟩) NB226_221.out _).trans (((cell_far (p := ⟨gb221, _, none⟩) NB226_221.out _).trans (hHeld.2.2.2.1)))))), ((cell_far (p := ⟨gb221, _, none⟩) NB226_221.out _).trans (((cell_far (p := ⟨gb221, _, none⟩) NB226_221.out _).trans (((cell_far (p := ⟨gb221, _, none⟩) NB226_221.out _).trans (hHeld.2.2.2.2.1)))))), ((cell_far (p := ⟨gb221, _, none⟩) NB226_221.out _).trans (((cell_far (p := ⟨gb221, _, none⟩) NB226_221.out _).trans (((cell_far (p := ⟨gb221, _, none⟩) NB226_221.out _).trans (hHeld.2.2.2.2.2))))))⟩ (fun hHeld => ?_)
   clear hK K
   refine pure_ (i := 10) (N := some 7) (v := ?_) (a' := ?_) #[true, true, true, true, true, true, true, true, true, true, true] rfl rfl (any_of HT_.out (by kernel_rfl)) (fun _ _ _ h => h) (Or.inl ⟨by rfl, ?_⟩) ?_ ?_
   rotate_left
   ·intro w'
    go_simp
    with_reducible rfl
   rotate_left
   ·simp only [Act.put, List.setIfInBounds_toArray, List.set_cons_zero, List.set_cons_succ, i64_w, i32_w]
    rfl
   refine done_ (done_of HT_.out (by kernel_rfl)) ?_
   try go_wp2
   refine bodyPost_ret (results_ct rfl _ _ gb221 24 #[.slice Ao22 t233.length co22, .string t236, .bool t237] (0, 0) _ rfl (by (with_reducible repeat (first | refine blk_drewN ?_ _ | refine blk_drew ?_ | refine blk_alloc ?_ _)); refine blk_put (cs := #[.slice Ao22 t233.length co22, .string t236, .bool false]) ?_ 2 _ rfl; (with_reducible repeat (first | refine blk_drewN ?_ _ | refine blk_drew ?_ | refine blk_alloc ?_ _)); refine blk_put (cs := #[.slice Ao22 t233.length co22, .string (⟨#[]⟩ : ByteArray), .bool false]) ?_ 1 _ rfl; (with_reducible repeat (first | refine blk_drewN ?_ _ | refine blk_drew ?_ | refine blk_alloc ?_ _)); refine blk_put (cs := #[.slice none 0 0, .string (⟨#[]⟩ : ByteArray), .bool false]) ?_ 0 _ rfl; (with_reducible repeat (first | refine blk_drewN ?_ _ | refine blk_drew ?_ | refine blk_alloc ?_ _)); exact BK221.out) Tryd.underlying24 rfl (by kernel_rfl)) rfl ?_
   exact ⟨_, by first | rfl | (simp [errW_none, errW_some] <;> rfl) | (simp [*, errW_none, errW_some] <;> rfl), by (with_reducible repeat (first | apply Kd.R_alloc | apply Kd.R_drewN | apply Kd.R_drew)); exact Kd.R_mono (Kd.R_far (p := ⟨gb221, 2, none⟩) (Kd.R_far (p := ⟨gb221, 1, none⟩) (Kd.R_far (p := ⟨gb221, 0, none⟩) (Kd.R_types HO235.out BK221.out (by decide)) (fun _ hk => hk.2) (.slice Ao22 t233.length co22)) (fun _ hk => hk.2) (.string t236)) (fun _ hk => hk.2) (.bool t237)) (fun _ hk => trivial), by repeat (first | (with_reducible first | exact HB.out | apply below_alloc | apply pw_below_drewN | apply below_drew1 | refine below_set ?_ GE220.out | refine below_set ?_ GE221.out | refine below_set ?_ GE226.out) | exact HB.out)⟩
  ·rw [if_neg c6] at H
   exact absurd H (by simp)
 ·rw [if_neg c5] at H
  have c5b0 : (t225 == 0) = false := beq_eq_false_iff_ne.mpr c5
  have c5b1 : (t225 != 0) = true := bne_iff_ne.mpr c5
  simp only [Option.some.injEq, Prod.mk.injEq] at H
  obtain ⟨rfl, rfl, rfl, rfl⟩ := H
  go_enter Tryd.func31, Tryd.ntmps31
  go_wp2_with (first | ((with_reducible refine gate_dst (N := 3) rfl ?_); refine box_event ?hg (N := 3) ?hd (cs := #[.slice A0_0 l0_0.length c0_0, .string a0_1, .bool a0_2]) (t := 24) ?hr ?_; (case hd => rfl); (case hg => rfl); (case hr => first | (go_simp; done) | (go_simp; rfl)); intro gb220 hg w26 hbox hb; have n0_ := Aside0.mk (below_step bl hb); have n1_ := Aside0.mk (hbox); have n2_ := Aside0.mk ((by rw [hg]; exact (below_size bl) : w.heap.size ≤ gb220)); have n3_ := Aside0.mk ((by rw [hg]; exact (below_size bl) : w.heap.size ≤ gb220)); clear HB; have HB := n0_; have BK220 := n1_; have GW220 := n2_; have GE220 := n3_; clear n0_ n1_ n2_ n3_; clear hb hbox hg) | ((with_reducible refine gate_dst (N := 6) rfl ?_); refine box_event ?hg (N := 6) ?hd (cs := #[.slice none 0 0, .string (⟨#[]⟩ : ByteArray), .bool false]) (t := 24) ?hr ?_; (case hd => rfl); (case hg => rfl); (case hr => first | (go_simp; done) | (go_simp; rfl)); intro gb221 hg w27 hbox hb; have n0_ := Aside0.mk (kb BK220.out hb); have n1_ := Aside0.mk (below_step bl hb); have n2_ := Aside0.mk (hbox); have n3_ := Aside0.mk ((by rw [hg]; exact (below_size bl) : w.heap.size ≤ gb221)); have n4_ := Aside0.mk ((by rw [hg]; exact (below_size bl) : w.heap.size ≤ gb221)); have n5_ := Aside0.mk ((by rw [hg]; exact Nat.ne_of_lt (blk_lt (bk BK220.out)) : gb220 ≠ gb221)); have n6_ := Aside0.mk ((by rw [hg]; exact Nat.ne_of_gt (blk_lt (bk BK220.out)) : gb221 ≠ gb220)); clear BK220; clear HB; have BK220 := n0_; have HB := n1_; have BK221 := n2_; have GW221 := n3_; have GE221 := n4_; have NB220_221 := n5_; have NB221_220 := n6_; clear n0_ n1_ n2_ n3_ n4_ n5_ n6_; clear hb hbox hg) | ((with_reducible refine gate_callee (f := 14) rfl ?_); refine goesL_ (some 13) rfl rfl Tryd.func14 (by kernel_rfl) rfl #[.string a1, .string a2] rfl ml ?_; (with_reducible refine (head_Lay.calls k a1 a2 t222 t223 t224 t225 _ ?side1 A4.out).mono ?_); (case side1 => exact Glob.below HG.out bl); rintro e w28 ⟨rfl, hb⟩; refine ⟨_, rfl, ?_⟩; have n0_ := Aside0.mk (kb BK220.out hb); have n1_ := Aside0.mk (kb BK221.out hb); have n2_ := Aside0.mk (below_step bl hb); clear BK220; clear BK221; clear HB; have BK220 := n0_; have BK221 := n1_; have HB := n2_; clear n0_ n1_ n2_; (try clear hb); (try clear hb2); (try clear hk); (try clear hi)) | ((with_reducible refine gate_dst (N := 8) rfl ?_); refine box_event ?hg (N := 8) ?hd (cs := #[.string (⟨#[]⟩ : ByteArray), .string (⟨#[]⟩ : ByteArray), .string (⟨#[]⟩ : ByteArray)]) (t := 41) ?hr ?_; (case hd => rfl); (case hg => rfl); (case hr => first | (go_simp; done) | (go_simp; rfl)); intro gb226 hg w29 hbox hb; have n0_ := Aside0.mk (kb BK220.out hb); have n1_ := Aside0.mk (kb BK221.out hb); have n2_ := Aside0.mk (below_step bl hb); have n3_ := Aside0.mk (hbox); have n4_ := Aside0.mk ((by rw [hg]; exact (below_size bl) : w.heap.size ≤ gb226)); have n5_ := Aside0.mk ((by rw [hg]; exact (below_size bl) : w.heap.size ≤ gb226)); have n6_ := Aside0.mk ((by rw [hg]; exact Nat.ne_of_lt (blk_lt (bk BK220.out)) : gb220 ≠ gb226)); have n7_ := Aside0.mk ((by rw [hg]; exact Nat.ne_of_gt (blk_lt (bk BK220.out)) : gb226 ≠ gb220)); have n8_ := Aside0.mk ((by rw [hg]; exact Nat.ne_of_lt (blk_lt (bk BK221.out)) : gb221 ≠ gb226)); have n9_ := Aside0.mk ((by rw [hg]; exact Nat.ne_of_gt (blk_lt (bk BK221.out)) : gb226 ≠ gb221)); clear BK220; clear BK221; clear HB; have BK220 := n0_; have BK221 := n1_; have HB := n2_; have BK226 := n3_; have GW226 := n4_; have GE226 := n5_; have NB220_226 := n6_; have NB226_220 := n7_; have NB221_226 := n8_; have NB226_221 := n9_; clear n0_ n1_ n2_ n3_ n4_ n5_ n6_ n7_ n8_ n9_; clear hb hbox hg; have hnb30 := NB226_220.out; have hnc30 := NB220_226.out; have hnb31 := NB226_221.out; have hnc31 := NB221_226.out; have hcz32_0 : w29.cell? ⟨gb226, 0, none⟩ = some (.string (⟨#[]⟩ : ByteArray)) := (blk_cell BK226.out 0).trans rfl; have hcz32_1 : w29.cell? ⟨gb226, 1, none⟩ = some (.string (⟨#[]⟩ : ByteArray)) := (blk_cell BK226.out 1).trans rfl; have hcz32_2 : w29.cell? ⟨gb226, 2, none⟩ = some (.string (⟨#[]⟩ : ByteArray)) := (blk_cell BK226.out 2).trans rfl; have hfz32_0 := blk_frozen BK226.out 0; have hfz32_1 := blk_frozen BK226.out 1; have hfz32_2 := blk_frozen BK226.out 2; have hnb33 := NB221_220.out; have hnc33 := NB220_221.out; have hcz34_0 : w29.cell? ⟨gb221, 0, none⟩ = some (.slice none 0 0) := (blk_cell BK221.out 0).trans rfl; have hcz34_1 : w29.cell? ⟨gb221, 1, none⟩ = some (.string (⟨#[]⟩ : ByteArray)) := (blk_cell BK221.out 1).trans rfl; have hcz34_2 : w29.cell? ⟨gb221, 2, none⟩ = some (.bool false) := (blk_cell BK221.out 2).trans rfl; have hfz34_0 := blk_frozen BK221.out 0; have hfz34_1 := blk_frozen BK221.out 1; have hfz34_2 := blk_frozen BK221.out 2))
  refine bodyPost_ret (results_ct rfl _ _ gb221 24 #[.slice none 0 0, .string (⟨#[]⟩ : ByteArray), .bool false] (0, 0) _ rfl (by (with_reducible repeat (first | refine blk_drewN ?_ _ | refine blk_drew ?_ | refine blk_alloc ?_ _)); refine blk_put (cs := #[.slice none 0 0, .string (⟨#[]⟩ : ByteArray), .bool false]) ?_ 2 _ rfl; (with_reducible repeat (first | refine blk_drewN ?_ _ | refine blk_drew ?_ | refine blk_alloc ?_ _)); refine blk_put (cs := #[.slice none 0 0, .string (⟨#[]⟩ : ByteArray), .bool false]) ?_ 1 _ rfl; (with_reducible repeat (first | refine blk_drewN ?_ _ | refine blk_drew ?_ | refine blk_alloc ?_ _)); refine blk_put (cs := #[.slice none 0 0, .string (⟨#[]⟩ : ByteArray), .bool false]) ?_ 0 _ rfl; (with_reducible repeat (first | refine blk_drewN ?_ _ | refine blk_drew ?_ | refine blk_alloc ?_ _)); refine blk_far ?_ NB221_226.out _; (with_reducible repeat (first | refine blk_drewN ?_ _ | refine blk_drew ?_ | refine blk_alloc ?_ _)); refine blk_far ?_ NB221_226.out _; (with_reducible repeat (first | refine blk_drewN ?_ _ | refine blk_drew ?_ | refine blk_alloc ?_ _)); refine blk_far ?_ NB221_226.out _; (with_reducible repeat (first | refine blk_drewN ?_ _ | refine blk_drew ?_ | refine blk_alloc ?_ _)); exact BK221.out) Tryd.underlying24 rfl (by kernel_rfl)) rfl ?_
  exact ⟨_, by first | rfl | (simp [errW_none, errW_some] <;> rfl) | (simp [*, errW_none, errW_some] <;> rfl), by first | exact Kd.R_nil _ _ _ _ _ | exact Kd.N_nil _ _ _ _ _ | exact Kd.V_nil _ _ _ _ _ | exact Kd.Q_nil _ _ _ _ _ | exact Kd.S_nil _ _ _ _ _, by repeat (first | (with_reducible first | exact HB.out | apply below_alloc | apply pw_below_drewN | apply below_drew1 | refine below_set ?_ GE220.out | refine below_set ?_ GE221.out | refine below_set ?_ GE226.out) | exact HB.out)⟩

/-! ### slices_Clone_head_Field_head_Field: function 70 (by hand) -/
def slices_Clone_head_Field_head_Field.f (l0 : List S41) : Option (List S41) := if l0.length * 48 ≤ 140737488355328 then some l0 else none
set_option maxHeartbeats 1000000 in
set_option maxRecDepth 100000 in
theorem slices_Clone_head_Field_head_Field.calls (A0 : Option Addr) (c0 : Nat) (l0 : List S41) (r : List S41) (w : World) (hr0 : Kd.C k41 w A0 l0.length l0) (hc0 : l0.length ≤ c0) (h : slices_Clone_head_Field_head_Field.f l0 = some r) :
    Calls Tryd.prog 70 #[.slice A0 l0.length c0] w fun e w' => ∃ v0_ : Value, e = .returned (v0_) ∧ Kd.R k41 41 w' w.heap.size (fun _ => True) v0_ r ∧ Below w.heap.size w w' := by
  unfold slices_Clone_head_Field_head_Field.f at h
  by_cases hsz : l0.length * 48 ≤ 140737488355328
  · rw [if_pos hsz] at h
    obtain rfl := Option.some.inj h
    clear h
    have HS := Aside0.mk hsz
    clear hsz
    have HC := Aside0.mk hc0
    have hu := Tryd.underlying22
    clear hc0
    cases A0 with
    | none =>
      have h0 : l0 = [] := by
        rcases Nat.eq_zero_or_pos l0.length with h0 | h0
        · exact List.length_eq_zero_iff.mp h0
        · obtain ⟨ad, h, _⟩ := hr0.2.2 h0
          cases h
      subst h0
      clear hr0
      have hq := fun W => Lib.run_eql_slice_nil (P := Tryd.prog) W 22 41 none 0 c0 0 0 hu
      go_enter Tryd.func70, Tryd.ntmps70
      go_wp2
      go_ret
      exact ⟨_, rfl, Kd.R_nil _ _ _ _ _, Below.refl _ _⟩
    | some ad =>
      have hq := fun W => Lib.run_eql_slice_nil (P := Tryd.prog) W 22 41 (some ad) l0.length c0 0 0 hu
      have HR := Aside0.mk hr0
      clear hr0
      go_enter Tryd.func70, Tryd.ntmps70
      go_wp2_with (first | ((with_reducible refine gate_dst (N := 5) rfl ?_); refine Kd.R_lit k41 w.heap.size 41 rfl (N := 5) rfl (xs := []) (inner := []) (ok := fun _ => True) (okp := fun _ => False) (by first | (go_simp; done) | (go_simp; rfl)) (Reps.none _ _) (fun _ h => h.elim) trivial (Below.refl _ _) (Nat.le_refl _) (by simp) ?_; intro v1 w1 ho1 hb1 hg1 hat1; have HO1 := Aside0.mk ho1; have HB1 := Aside0.mk hb1; clear ho1 hb1 hg1 hat1) | ((with_reducible refine gate_builtin (b := .append) (xs := #[.tmp 5, .tmp 6]) rfl ?_); at_builtin; refine Kd.R_append_rows k41 (w0 := w) w.heap.size rfl (.tmp 5) (.tmp 6) 22 41 (.agg #[(.string ⟨#[]⟩), (.string ⟨#[]⟩), (.string ⟨#[]⟩)]) 48 rfl hu info41 rfl (by decide) (by omega) v1 ([] : List S41) l0 _ _ _ (fun _ => True) (fun _ => False) rfl rfl HO1.out (Kd.C_below HR.out HB1.out) (fun x cs h => by obtain rfl := k41_open h; exact k41_mkM _ _ _ _) (fun _ h => h.elim) (fun _ _ => trivial) HB1.out HB1.out.size (by have := HS.out; simp; omega) ?_; intro v2 w2 ho2 hb2 hg2 hat2))
      go_ret
      exact ⟨_, rfl, by simpa using ho2, hb2⟩
  · rw [if_neg hsz] at h; cases h


/-! ### head_Message_Put: function 33 -/
def head_Message_Put.j0 : Nat → Int → ByteArray → Bool → List (S41) → ByteArray → Bool → Option ((List (S41)) × ByteArray × Bool × Int)
 | 0, _, _, _, _, _, _ => none
 | k + 1, x1, x2, x19, x240000, x240001, x240002 => if x19 = true then (some (([] : List (S41)), (⟨#[]⟩ : ByteArray), false, 1)) else (if 0 ≤ x1 then (if x1 < (x240000.length : Int) then ((head_Lay.f k ((rd_T41 x240000 x1).f0) x2).bind fun bt242 => (if bt242.2.2.2 = 0 then ((slices_Clone_head_Field_head_Field.f x240000).bind fun t247 => (if x1 < (t247.length : Int) then ((head_Message_with.f x240000 x240001 x240002 (t247.set (x1 : Int).toNat (⟨bt242.1, bt242.2.1, bt242.2.2.1⟩ : S41))).bind fun bt251 => (some (bt251.1, bt251.2.1, bt251.2.2.1, bt251.2.2.2))) else (none))) else (some (([] : List (S41)), (⟨#[]⟩ : ByteArray), false, bt242.2.2.2)))) else (none)) else (none))
def head_Message_Put.f (k : Nat) (l0_0 : List (S41)) (a0_1 : ByteArray) (a0_2 : Bool) (a1 : Int) (a2 : ByteArray) : Option ((List (S41)) × ByteArray × Bool × Int) := if a1 < 0 then (head_Message_Put.j0 k a1 a2 true l0_0 a0_1 a0_2) else (head_Message_Put.j0 k a1 a2 (decide (a1 ≥ (l0_0.length : Int))) l0_0 a0_1 a0_2)
theorem head_Message_Put.mono_l : ∀ k, (∀ y0 y1 y2 y3 y4 y5, LeO (head_Message_Put.j0 k y0 y1 y2 y3 y4 y5) (head_Message_Put.j0 (k + 1) y0 y1 y2 y3 y4 y5))
 | 0 => fun _ _ _ _ _ _ r h => by simp [head_Message_Put.j0] at h
 | k + 1 => by
  have ih0 := head_Message_Put.mono_l k
  ·intro y0 y1 y2 y3 y4 y5
   unfold head_Message_Put.j0
   repeat' first
   | (with_reducible exact ih0 _ _ _ _ _ _)
   | (with_reducible exact head_Lay.mono _ _ _)
   | (with_reducible exact LeO.refl _)
   | (with_reducible exact LeO.none _)
   | (with_reducible refine LeO.ite ?_ ?_)
   | (with_reducible refine LeO.bind ?_ (fun _ => ?_))
   | exact ih0 _ _ _ _ _ _
   | exact head_Lay.mono _ _ _
   | exact LeO.none _
   | refine LeO.ite ?_ ?_
   | refine LeO.bind ?_ (fun _ => ?_)
theorem head_Message_Put.mono : ∀ a0 a1 a2 a3 a4 k, LeO (head_Message_Put.f k a0 a1 a2 a3 a4) (head_Message_Put.f (k + 1) a0 a1 a2 a3 a4) := by
 intro a0 a1 a2 a3 a4 k
 have ih0 := head_Message_Put.mono_l k
 unfold head_Message_Put.f
 repeat' first
   | (with_reducible exact ih0 _ _ _ _ _ _)
   | (with_reducible exact head_Lay.mono _ _ _)
   | (with_reducible exact LeO.refl _)
   | (with_reducible exact LeO.none _)
   | (with_reducible refine LeO.ite ?_ ?_)
   | (with_reducible refine LeO.bind ?_ (fun _ => ?_))
   | exact ih0 _ _ _ _ _ _
   | exact head_Lay.mono _ _ _
   | exact LeO.none _
   | refine LeO.ite ?_ ?_
   | refine LeO.bind ?_ (fun _ => ?_)
set_option maxHeartbeats 8000000 in
set_option maxRecDepth 100000 in
theorem head_Message_Put.calls (k : Nat) (A0_0 : Option Addr) (c0_0 : Nat) (l0_0 : List (S41)) (a0_1 : ByteArray) (a0_2 : Bool) (a1 : Int) (a2 : ByteArray) (r1 : List (S41)) (r2 : ByteArray) (r3 : Bool) (r4 : Int) (w : World) (hr0_0 : Kd.C k41 w A0_0 l0_0.length l0_0) (hc0_0 : l0_0.length ≤ c0_0) (hG : Glob w) (h : head_Message_Put.f k l0_0 a0_1 a0_2 a1 a2 = some (r1, r2, r3, r4)) :
  Calls Tryd.prog 33 #[.agg #[.slice A0_0 l0_0.length c0_0, .string a0_1, .bool a0_2], .int .i64 a1, .string a2] w fun e w' => ∃ v0_ : Value, e = .returned (.tuple #[.agg #[v0_, .string r2, .bool r3], .int .i64 r4]) ∧ Kd.R k41 41 w' w.heap.size (fun _ => True) v0_ r1 ∧ Below w.heap.size w w' := by
 have hu24 := Tryd.underlying24
 have hu41 := Tryd.underlying41
 have HR0_0 := Aside0.mk hr0_0
 have HC0_0 := Aside0.mk hc0_0
 clear hr0_0 hc0_0
 have HB := Aside0.mk (Below.refl w.heap.size w)
 have HG := Aside0.mk hG
 clear hG
 have H : (if a1 < 0 then (head_Message_Put.j0 k a1 a2 true l0_0 a0_1 a0_2) else (head_Message_Put.j0 k a1 a2 (decide (a1 ≥ (l0_0.length : Int))) l0_0 a0_1 a0_2)) = some (r1, r2, r3, r4) := h
 clear h
 have HC4 := Aside0.mk H
 clear H
 go_enter Tryd.func33, Tryd.ntmps33
 go_upto_region 1 with (first | ((with_reducible refine gate_dst (N := 3) rfl ?_); (try (refine gate_guard (by rfl) ?_; dsimp only)); refine box_event ?hg (N := 3) ?hd (cs := #[.slice A0_0 l0_0.length c0_0, .string a0_1, .bool a0_2]) (t := 24) ?hr ?_; (case hd => rfl); (case hg => rfl); (case hr => first | (go_simp; done) | (go_simp; rfl)); intro gb239 hg w5 hbox hb; have n0_ := Aside0.mk (below_step bl hb); have n1_ := Aside0.mk (hbox); have n2_ := Aside0.mk ((by rw [hg]; exact (below_size bl) : w.heap.size ≤ gb239)); have n3_ := Aside0.mk ((by rw [hg]; exact (below_size bl) : w.heap.size ≤ gb239)); clear HB; have HB := n0_; have BK239 := n1_; have GW239 := n2_; have GE239 := n3_; clear n0_ n1_ n2_ n3_; clear hb hbox hg) | ((with_reducible refine gate_dst (N := 6) rfl ?_); (try (refine gate_guard (by rfl) ?_; dsimp only)); refine box_event ?hg (N := 6) ?hd (cs := #[.slice none 0 0, .string (⟨#[]⟩ : ByteArray), .bool false]) (t := 24) ?hr ?_; (case hd => rfl); (case hg => rfl); (case hr => first | (go_simp; done) | (go_simp; rfl)); intro gb240 hg w6 hbox hb; have n0_ := Aside0.mk (kb BK239.out hb); have n1_ := Aside0.mk (below_step bl hb); have n2_ := Aside0.mk (hbox); have n3_ := Aside0.mk ((by rw [hg]; exact (below_size bl) : w.heap.size ≤ gb240)); have n4_ := Aside0.mk ((by rw [hg]; exact (below_size bl) : w.heap.size ≤ gb240)); have n5_ := Aside0.mk ((by rw [hg]; exact Nat.ne_of_lt (blk_lt (bk BK239.out)) : gb239 ≠ gb240)); have n6_ := Aside0.mk ((by rw [hg]; exact Nat.ne_of_gt (blk_lt (bk BK239.out)) : gb240 ≠ gb239)); clear BK239; clear HB; have BK239 := n0_; have HB := n1_; have BK240 := n2_; have GW240 := n3_; have GE240 := n4_; have NB239_240 := n5_; have NB240_239 := n6_; clear n0_ n1_ n2_ n3_ n4_ n5_ n6_; clear hb hbox hg))
 (try simp only [Act.put, List.setIfInBounds_toArray, List.set_cons_zero, List.set_cons_succ])
 go_cut [19] (fun v19 wc => ∃ (kq : Nat) (x19_3 : Bool), v19 = .bool x19_3 ∧ Aside0 (head_Message_Put.j0 kq a1 a2 x19_3 l0_0 a0_1 a0_2 = some (r1, r2, r3, r4)) ∧ Aside0 (kq ≤ k) ∧ Aside0 (wc.heap[gb239]? = some (.cells #[(.slice A0_0 l0_0.length c0_0), .string a0_1, .bool a0_2] 24 (0, 0))) ∧ Aside0 (wc.heap[gb240]? = some (.cells #[(.slice none 0 0), .string (⟨#[]⟩ : ByteArray), .bool false] 24 (0, 0))) ∧ Aside0 (Below w.heap.size w wc))
 case first =>
  have H := HC4.out
  clear HC4
  by_cases c7 : a1 < 0
  ·rw [if_pos c7] at H
   have c7b0 : decide (a1 < 0) = true := decide_eq_true c7
   clear c7
   (first | rw [c7b0] | (simp only [i64_w, i32_w]; rw [c7b0]) | skip)
   have H' := Aside0.mk H
   clear H
   go_wp2
   go_meet
   case rel => exact ⟨_, (true), (by first | rfl | (simp; done) | (simp [*]; done)), H', ⟨by first | omega | exact Nat.le_refl _⟩, ⟨by (with_reducible repeat (first | refine blk_drewN ?_ _ | refine blk_drew ?_ | refine blk_alloc ?_ _)); exact BK239.out⟩, ⟨by (with_reducible repeat (first | refine blk_drewN ?_ _ | refine blk_drew ?_ | refine blk_alloc ?_ _)); exact BK240.out⟩, ⟨by repeat (first | (with_reducible first | exact HB.out | apply below_alloc | apply pw_below_drewN | apply below_drew1 | refine below_set ?_ GE239.out | refine below_set ?_ GE240.out) | exact HB.out)⟩⟩
  ·rw [if_neg c7] at H
   have c7b0 : decide (a1 < 0) = false := decide_eq_false c7
   clear c7
   (first | rw [c7b0] | (simp only [i64_w, i32_w]; rw [c7b0]) | skip)
   have H' := Aside0.mk H
   clear H
   have hnb8 := NB239_240.out
   have hnc8 := NB240_239.out
   have hcz9_0 : w6.cell? ⟨gb239, 0, none⟩ = some (.slice A0_0 l0_0.length c0_0) := (blk_cell BK239.out 0).trans rfl
   have hcz9_1 : w6.cell? ⟨gb239, 1, none⟩ = some (.string a0_1) := (blk_cell BK239.out 1).trans rfl
   have hcz9_2 : w6.cell? ⟨gb239, 2, none⟩ = some (.bool a0_2) := (blk_cell BK239.out 2).trans rfl
   have hfz9_0 := blk_frozen BK239.out 0
   have hfz9_1 := blk_frozen BK239.out 1
   have hfz9_2 := blk_frozen BK239.out 2
   go_wp2
   go_meet
   case rel => exact ⟨_, (decide (a1 ≥ (l0_0.length : Int))), (by first | rfl | (simp; done) | (simp [*]; done)), H', ⟨by first | omega | exact Nat.le_refl _⟩, ⟨by (with_reducible repeat (first | refine blk_drewN ?_ _ | refine blk_drew ?_ | refine blk_alloc ?_ _)); exact BK239.out⟩, ⟨by (with_reducible repeat (first | refine blk_drewN ?_ _ | refine blk_drew ?_ | refine blk_alloc ?_ _)); exact BK240.out⟩, ⟨by repeat (first | (with_reducible first | exact HB.out | apply below_alloc | apply pw_below_drewN | apply below_drew1 | refine below_set ?_ GE239.out | refine below_set ?_ GE240.out) | exact HB.out)⟩⟩
 case rest =>
  clear HC4
  try clear p2
  try clear c3
  try clear c7
  try clear c7b0
  try clear c8
  try clear hcz9_0
  try clear hcz9_1
  try clear hcz9_2
  try clear hfz9_0
  try clear hfz9_1
  try clear hfz9_2
  obtain ⟨kq, x19_3, rfl, HA, HJ3, BK239, BK240, HB⟩ := hcut
  cases kq with
  | zero => exact absurd HA.out (by simp [head_Message_Put.j0])
  | succ kj3 =>
   have H := HA.out
   clear HA
   simp only [head_Message_Put.j0] at H
   by_cases c10 : x19_3 = true
   ·subst c10
    have H1 : (some (([] : List (S41)), (⟨#[]⟩ : ByteArray), false, 1)) = some (r1, r2, r3, r4) := by rw [if_pos rfl] at H; exact H
    clear H
    have H := H1
    clear H1
    simp only [Option.some.injEq, Prod.mk.injEq] at H
    obtain ⟨rfl, rfl, rfl, rfl⟩ := H
    have hnb11 := NB240_239.out
    have hnc11 := NB239_240.out
    have hcz12_0 : wc.cell? ⟨gb240, 0, none⟩ = some (.slice none 0 0) := (blk_cell BK240.out 0).trans rfl
    have hcz12_1 : wc.cell? ⟨gb240, 1, none⟩ = some (.string (⟨#[]⟩ : ByteArray)) := (blk_cell BK240.out 1).trans rfl
    have hcz12_2 : wc.cell? ⟨gb240, 2, none⟩ = some (.bool false) := (blk_cell BK240.out 2).trans rfl
    have hfz12_0 := blk_frozen BK240.out 0
    have hfz12_1 := blk_frozen BK240.out 1
    have hfz12_2 := blk_frozen BK240.out 2
    go_wp2
    refine bodyPost_ret (results_ct rfl _ _ gb240 24 #[.slice none 0 0, .string (⟨#[]⟩ : ByteArray), .bool false] (0, 0) _ rfl (by (with_reducible repeat (first | refine blk_drewN ?_ _ | refine blk_drew ?_ | refine blk_alloc ?_ _)); refine blk_put (cs := #[.slice none 0 0, .string (⟨#[]⟩ : ByteArray), .bool false]) ?_ 2 _ rfl; (with_reducible repeat (first | refine blk_drewN ?_ _ | refine blk_drew ?_ | refine blk_alloc ?_ _)); refine blk_put (cs := #[.slice none 0 0, .string (⟨#[]⟩ : ByteArray), .bool false]) ?_ 1 _ rfl; (with_reducible repeat (first | refine blk_drewN ?_ _ | refine blk_drew ?_ | refine blk_alloc ?_ _)); refine blk_put (cs := #[.slice none 0 0, .string (⟨#[]⟩ : ByteArray), .bool false]) ?_ 0 _ rfl; (with_reducible repeat (first | refine blk_drewN ?_ _ | refine blk_drew ?_ | refine blk_alloc ?_ _)); exact BK240.out) Tryd.underlying24 rfl (by kernel_rfl)) rfl ?_
    exact ⟨_, by first | rfl | (simp [errW_none, errW_some] <;> rfl) | (simp [*, errW_none, errW_some] <;> rfl), by first | exact Kd.R_nil _ _ _ _ _ | exact Kd.N_nil _ _ _ _ _ | exact Kd.V_nil _ _ _ _ _ | exact Kd.Q_nil _ _ _ _ _ | exact Kd.S_nil _ _ _ _ _, by repeat (first | (with_reducible first | exact HB.out | apply below_alloc | apply pw_below_drewN | apply below_drew1 | refine below_set ?_ GE239.out | refine below_set ?_ GE240.out) | exact HB.out)⟩
   ·replace c10 := Bool.eq_false_iff.mpr c10
    subst c10
    have H1 : (if 0 ≤ a1 then (if a1 < (l0_0.length : Int) then ((head_Lay.f kj3 ((rd_T41 l0_0 a1).f0) a2).bind fun bt242 => (if bt242.2.2.2 = 0 then ((slices_Clone_head_Field_head_Field.f l0_0).bind fun t247 => (if a1 < (t247.length : Int) then ((head_Message_with.f l0_0 a0_1 a0_2 (t247.set (a1 : Int).toNat (⟨bt242.1, bt242.2.1, bt242.2.2.1⟩ : S41))).bind fun bt251 => (some (bt251.1, bt251.2.1, bt251.2.2.1, bt251.2.2.2))) else (none))) else (some (([] : List (S41)), (⟨#[]⟩ : ByteArray), false, bt242.2.2.2)))) else (none)) else (none)) = some (r1, r2, r3, r4) := by rw [if_neg (show ¬ (false = true) by decide)] at H; exact H
    clear H
    have H := H1
    clear H1
    by_cases c13 : 0 ≤ a1
    ·rw [if_pos c13] at H
     have c13b0 : decide (0 ≤ a1) = true := decide_eq_true c13
     clear c13
     by_cases c14 : a1 < (l0_0.length : Int)
     ·rw [if_pos c14] at H
      have c14b0 : decide (a1 < (l0_0.length : Int)) = true := decide_eq_true c14
      clear c14
      replace H := Option.bind_eq_some_iff.mp H
      obtain ⟨⟨t242, t243, t244, t245⟩, A150, H⟩ := H
      replace H : (if t245 = 0 then ((slices_Clone_head_Field_head_Field.f l0_0).bind fun t247 => (if a1 < (t247.length : Int) then ((head_Message_with.f l0_0 a0_1 a0_2 (t247.set (a1 : Int).toNat (⟨t242, t243, t244⟩ : S41))).bind fun bt251 => (some (bt251.1, bt251.2.1, bt251.2.2.1, bt251.2.2.2))) else (none))) else (some (([] : List (S41)), (⟨#[]⟩ : ByteArray), false, t245))) = some (r1, r2, r3, r4) := H
      have A15 := Aside0.mk A150
      clear A150
      by_cases c16 : t245 = 0
      ·rw [if_pos c16] at H
       have c16b0 : (t245 == 0) = true := beq_iff_eq.mpr c16
       have c16b1 : (t245 != 0) = false := bne_eq_false_iff_eq.mpr c16
       clear c16
       replace H := Option.bind_eq_some_iff.mp H
       obtain ⟨t247, A170, H⟩ := H
       replace H : (if a1 < (t247.length : Int) then ((head_Message_with.f l0_0 a0_1 a0_2 (t247.set (a1 : Int).toNat (⟨t242, t243, t244⟩ : S41))).bind fun bt251 => (some (bt251.1, bt251.2.1, bt251.2.2.1, bt251.2.2.2))) else (none)) = some (r1, r2, r3, r4) := H
       have A17 := Aside0.mk A170
       clear A170
       by_cases c18 : a1 < (t247.length : Int)
       ·rw [if_pos c18] at H
        have c18b0 : decide (a1 < (t247.length : Int)) = true := decide_eq_true c18
        clear c18
        obtain ⟨y250, hy250⟩ : ∃ y_ : List (S41), y_ = (t247.set (a1 : Int).toNat (⟨t242, t243, t244⟩ : S41)) := ⟨_, rfl⟩
        replace H : ((head_Message_with.f l0_0 a0_1 a0_2 y250).bind fun bt251 => (some (bt251.1, bt251.2.1, bt251.2.2.1, bt251.2.2.2))) = some (r1, r2, r3, r4) := by first | (rw [hy250]; with_reducible exact H) | (have H2_ := (Option.bind_some _ _).symm.trans H; rw [hy250]; with_reducible exact H2_) | (have H2_ := (Option.bind_some _ _).symm.trans H; with_reducible exact H2_) | with_reducible exact H | (rw [hy250]; exact H) | exact H
        have Ny250 := Aside0.mk hy250
        clear hy250
        replace H := Option.bind_eq_some_iff.mp H
        obtain ⟨⟨t251, t254, t255, t256⟩, A200, H⟩ := H
        replace H : (some (t251, t254, t255, t256)) = some (r1, r2, r3, r4) := H
        have A20 := Aside0.mk A200
        clear A200
        simp only [Option.some.injEq, Prod.mk.injEq] at H
        obtain ⟨rfl, rfl, rfl, rfl⟩ := H
        have hnb21 := NB239_240.out
        have hnc21 := NB240_239.out
        have hcz22_0 : wc.cell? ⟨gb239, 0, none⟩ = some (.slice A0_0 l0_0.length c0_0) := (blk_cell BK239.out 0).trans rfl
        have hcz22_1 : wc.cell? ⟨gb239, 1, none⟩ = some (.string a0_1) := (blk_cell BK239.out 1).trans rfl
        have hcz22_2 : wc.cell? ⟨gb239, 2, none⟩ = some (.bool a0_2) := (blk_cell BK239.out 2).trans rfl
        have hfz22_0 := blk_frozen BK239.out 0
        have hfz22_1 := blk_frozen BK239.out 1
        have hfz22_2 := blk_frozen BK239.out 2
        have p241 : 0 ≤ (a1 : Int) := od
        have q241 : a1 < (l0_0.length : Int) := od
        obtain ⟨ad241, e241, hx241_0, hx241_1, hx241_2⟩ := at_T41 HR0_0.out a1 p241 q241
        cases e241
        replace hx241_0 := (HB.out.cell (World.block_lt_of_cell? w _ hx241_0)).trans hx241_0
        replace hx241_1 := (HB.out.cell (World.block_lt_of_cell? w _ hx241_1)).trans hx241_1
        replace hx241_2 := (HB.out.cell (World.block_lt_of_cell? w _ hx241_2)).trans hx241_2
        replace p241 := eq_true p241
        replace q241 := eq_true q241
        go_wp2_with (first | ((with_reducible refine gate_callee (f := 14) rfl ?_); refine goesL_ (some 29) rfl rfl Tryd.func14 (by kernel_rfl) rfl #[.string ((rd_T41 l0_0 a1).f0), .string a2] rfl ml ?_; (with_reducible refine (head_Lay.calls kj3 ((rd_T41 l0_0 a1).f0) a2 t242 t243 t244 t245 _ ?side1 A15.out).mono ?_); (case side1 => exact Glob.below HG.out bl); rintro e w23 ⟨rfl, hb⟩; refine ⟨_, rfl, ?_⟩; have n0_ := Aside0.mk (kb BK239.out hb); have n1_ := Aside0.mk (kb BK240.out hb); have n2_ := Aside0.mk (below_step bl hb); clear BK239; clear BK240; clear HB; have BK239 := n0_; have BK240 := n1_; have HB := n2_; clear n0_ n1_ n2_; (try clear hb); (try clear hb2); (try clear hk); (try clear hi)) | ((with_reducible refine gate_dst (N := 8) rfl ?_); (try (refine gate_guard (by rfl) ?_; dsimp only)); refine box_event ?hg (N := 8) ?hd (cs := #[.string (⟨#[]⟩ : ByteArray), .string (⟨#[]⟩ : ByteArray), .string (⟨#[]⟩ : ByteArray)]) (t := 41) ?hr ?_; (case hd => rfl); (case hg => rfl); (case hr => first | (go_simp; done) | (go_simp; rfl)); intro gb246 hg w24 hbox hb; have n0_ := Aside0.mk (kb BK239.out hb); have n1_ := Aside0.mk (kb BK240.out hb); have n2_ := Aside0.mk (below_step bl hb); have n3_ := Aside0.mk (hbox); have n4_ := Aside0.mk ((by rw [hg]; exact (below_size bl) : w.heap.size ≤ gb246)); have n5_ := Aside0.mk ((by rw [hg]; exact (below_size bl) : w.heap.size ≤ gb246)); have n6_ := Aside0.mk ((by rw [hg]; exact Nat.ne_of_lt (blk_lt (bk BK239.out)) : gb239 ≠ gb246)); have n7_ := Aside0.mk ((by rw [hg]; exact Nat.ne_of_gt (blk_lt (bk BK239.out)) : gb246 ≠ gb239)); have n8_ := Aside0.mk ((by rw [hg]; exact Nat.ne_of_lt (blk_lt (bk BK240.out)) : gb240 ≠ gb246)); have n9_ := Aside0.mk ((by rw [hg]; exact Nat.ne_of_gt (blk_lt (bk BK240.out)) : gb246 ≠ gb240)); clear BK239; clear BK240; clear HB; have BK239 := n0_; have BK240 := n1_; have HB := n2_; have BK246 := n3_; have GW246 := n4_; have GE246 := n5_; have NB239_246 := n6_; have NB246_239 := n7_; have NB240_246 := n8_; have NB246_240 := n9_; clear n0_ n1_ n2_ n3_ n4_ n5_ n6_ n7_ n8_ n9_; clear hb hbox hg; have hnb25 := NB246_239.out; have hnc25 := NB239_246.out; have hnb26 := NB246_240.out; have hnc26 := NB240_246.out; have hcz27_0 : w24.cell? ⟨gb246, 0, none⟩ = some (.string (⟨#[]⟩ : ByteArray)) := (blk_cell BK246.out 0).trans rfl; have hcz27_1 : w24.cell? ⟨gb246, 1, none⟩ = some (.string (⟨#[]⟩ : ByteArray)) := (blk_cell BK246.out 1).trans rfl; have hcz27_2 : w24.cell? ⟨gb246, 2, none⟩ = some (.string (⟨#[]⟩ : ByteArray)) := (blk_cell BK246.out 2).trans rfl; have hfz27_0 := blk_frozen BK246.out 0; have hfz27_1 := blk_frozen BK246.out 1; have hfz27_2 := blk_frozen BK246.out 2; have hcz28_0 : w24.cell? ⟨gb239, 0, none⟩ = some (.slice (some ad241) l0_0.length c0_0) := (blk_cell BK239.out 0).trans rfl; have hcz28_1 : w24.cell? ⟨gb239, 1, none⟩ = some (.string a0_1) := (blk_cell BK239.out 1).trans rfl; have hcz28_2 : w24.cell? ⟨gb239, 2, none⟩ = some (.bool a0_2) := (blk_cell BK239.out 2).trans rfl; have hfz28_0 := blk_frozen BK239.out 0; have hfz28_1 := blk_frozen BK239.out 1; have hfz28_2 := blk_frozen BK239.out 2) | ((with_reducible refine gate_callee (f := 70) rfl ?_); refine goesL_ (some 38) rfl rfl Tryd.func70 (by kernel_rfl) rfl #[.slice (some ad241) l0_0.length c0_0] rfl ml ?_; (with_reducible refine (slices_Clone_head_Field_head_Field.calls _ _ l0_0 t247 _ ?side1 ?side2 A17.out).mono ?_); (case side1 => exact Kd.C_below HR0_0.out bl); (case side2 => exact HC0_0.out); rintro e w29 ⟨v248, rfl, ho0, hb⟩; refine ⟨_, rfl, ?_⟩; have n0_ := Aside0.mk (Kd.R_lower (Kd.R_newB ho0 (g := gb246) (o := .cells #[.string t242, .string t243, .string t244] 41 (0, 0)) (by (with_reducible repeat (first | refine blk_drewN ?_ _ | refine blk_drew ?_ | refine blk_alloc ?_ _)); refine blk_put (cs := #[.string t242, .string t243, .string (⟨#[]⟩ : ByteArray)]) ?_ 2 _ rfl; (with_reducible repeat (first | refine blk_drewN ?_ _ | refine blk_drew ?_ | refine blk_alloc ?_ _)); refine blk_put (cs := #[.string t242, .string (⟨#[]⟩ : ByteArray), .string (⟨#[]⟩ : ByteArray)]) ?_ 1 _ rfl; (with_reducible repeat (first | refine blk_drewN ?_ _ | refine blk_drew ?_ | refine blk_alloc ?_ _)); refine blk_put (cs := #[.string (⟨#[]⟩ : ByteArray), .string (⟨#[]⟩ : ByteArray), .string (⟨#[]⟩ : ByteArray)]) ?_ 0 _ rfl; (with_reducible repeat (first | refine blk_drewN ?_ _ | refine blk_drew ?_ | refine blk_alloc ?_ _)); exact BK246.out)) (below_size bl)); have n1_ := Aside0.mk (kb BK239.out hb); have n2_ := Aside0.mk (kb BK240.out hb); have n3_ := Aside0.mk (blk_below (g := gb246) (o := .cells #[.string t242, .string t243, .string t244] 41 (0, 0)) (by (with_reducible repeat (first | refine blk_drewN ?_ _ | refine blk_drew ?_ | refine blk_alloc ?_ _)); refine blk_put (cs := #[.string t242, .string t243, .string (⟨#[]⟩ : ByteArray)]) ?_ 2 _ rfl; (with_reducible repeat (first | refine blk_drewN ?_ _ | refine blk_drew ?_ | refine blk_alloc ?_ _)); refine blk_put (cs := #[.string t242, .string (⟨#[]⟩ : ByteArray), .string (⟨#[]⟩ : ByteArray)]) ?_ 1 _ rfl; (with_reducible repeat (first | refine blk_drewN ?_ _ | refine blk_drew ?_ | refine blk_alloc ?_ _)); refine blk_put (cs := #[.string (⟨#[]⟩ : ByteArray), .string (⟨#[]⟩ : ByteArray), .string (⟨#[]⟩ : ByteArray)]) ?_ 0 _ rfl; (with_reducible repeat (first | refine blk_drewN ?_ _ | refine blk_drew ?_ | refine blk_alloc ?_ _)); exact BK246.out) hb); have n4_ := Aside0.mk (below_step bl hb); clear BK239; clear BK240; clear BK246; clear HB; have HO249 := n0_; have BK239 := n1_; have BK240 := n2_; have BK246 := n3_; have HB := n4_; clear n0_ n1_ n2_ n3_ n4_; (try clear hb); (try clear hb2); (try clear hk); (try clear hi); (try clear ho0); have hcz30_0 : w29.cell? ⟨gb246, 0, none⟩ = some (.string t242) := (blk_cell BK246.out 0).trans rfl; have hcz30_1 : w29.cell? ⟨gb246, 1, none⟩ = some (.string t243) := (blk_cell BK246.out 1).trans rfl; have hcz30_2 : w29.cell? ⟨gb246, 2, none⟩ = some (.string t244) := (blk_cell BK246.out 2).trans rfl; have hfz30_0 := blk_frozen BK246.out 0; have hfz30_1 := blk_frozen BK246.out 1; have hfz30_2 := blk_frozen BK246.out 2; have p19 : 0 ≤ (a1 : Int) := od; have q19 : (a1 : Int) < ((t247.length : Int) : Int) := od; obtain ⟨go19, co19, eo19, gb19, gl19, cl19, HG19⟩ := Kd.R_form HO249.out (by omega); (first | cases eo19 | (injection eo19 with ea_ en_ ec_; (first | subst ea_ | (injection ea_ with ea_; subst ea_)); subst ec_; clear en_)); have GB19 := Aside0.mk gb19; have GG19 := Aside0.mk HG19; clear gb19 gl19 HG19; obtain ⟨ce19, hcl19, hM19, hcc19, hfr19⟩ := Kd.R_elem HO249.out z41 (a1 : Int) p19 q19; obtain rfl := k41_openM hM19; have hx19_0 : w29.cell? ⟨go19, (a1 : Int).toNat * 3, none⟩ = some (.string ((rd_T41 t247 a1).f0)) := hcc19 0 _ rfl; have hx19_1 : w29.cell? ⟨go19, (a1 : Int).toNat * 3 + 1, none⟩ = some (.string ((rd_T41 t247 a1).f1)) := hcc19 1 _ rfl; have hx19_2 : w29.cell? ⟨go19, (a1 : Int).toNat * 3 + 2, none⟩ = some (.string ((rd_T41 t247 a1).f2)) := hcc19 2 _ rfl; have hf19_0 : w29.frozen? ⟨go19, (a1 : Int).toNat * 3, none⟩ = false := hfr19 0; have hf19_1 : w29.frozen? ⟨go19, (a1 : Int).toNat * 3 + 1, none⟩ = false := hfr19 1; have hf19_2 : w29.frozen? ⟨go19, (a1 : Int).toNat * 3 + 2, none⟩ = false := hfr19 2; clear hcl19 hcc19 hfr19 hM19; replace p19 := eq_true p19; replace q19 := eq_true q19; have n_ := Aside0.mk (Kd.R_mono (ok' := (fun k_ => k_ ≠ gb246)) HO249.out (fun k_ hk => hk.2)); clear HO249; have HO249 := n_; clear n_; have HX31 := Aside0.mk (show Kd.R k41 41 w29 w.heap.size (fun k_ => k_ ≠ gb246) (.slice (some ⟨go19, 0, none⟩) t247.length co19) t247 from (kr HO249.out)); obtain ⟨ce31, hcl31, hM31, hcc31, hfr31⟩ := Kd.R_elem HX31.out z41 (a1 : Int) (od) (by have h_ : (a1 : Int) < ((t247.length : Int) : Int) := od; first | exact h_ | (have e_ := (Kd.R_reads' HO249.out).1; omega) | simpa using h_); obtain rfl := k41_openM hM31; have HP31 := Kd.R_seg HX31.out (a1 : Int) (od) (by have h_ : (a1 : Int) < ((t247.length : Int) : Int) := od; first | exact h_ | (have e_ := (Kd.R_reads' HO249.out).1; omega) | simpa using h_) (seg := [.string t242, .string t243, .string t244]) (j := 0) hcl31 hcc31 (show 3 ≤ 3 from by decide) (x' := (⟨t242, t243, t244⟩ : S41)) (k41_mkM _ _ _ (⟨t242, t243, t244⟩ : S41) ) (fun _ hk => hk); have hx31_0 := hcc31 0 _ rfl; (try simp only [show (k41).sz = 3 from rfl, Nat.mul_one, Nat.add_zero] at hx31_0); have hf31_0 := hfr31 0; (try simp only [show (k41).sz = 3 from rfl, Nat.mul_one, Nat.add_zero] at hf31_0); have hx31_1 := hcc31 1 _ rfl; (try simp only [show (k41).sz = 3 from rfl, Nat.mul_one, Nat.add_zero] at hx31_1); have hf31_1 := hfr31 1; (try simp only [show (k41).sz = 3 from rfl, Nat.mul_one, Nat.add_zero] at hf31_1); have hx31_2 := hcc31 2 _ rfl; (try simp only [show (k41).sz = 3 from rfl, Nat.mul_one, Nat.add_zero] at hx31_2); have hf31_2 := hfr31 2; (try simp only [show (k41).sz = 3 from rfl, Nat.mul_one, Nat.add_zero] at hf31_2); clear hcl31 hcc31 hfr31 hM31) | ((with_reducible refine gate_store (t := 41) (p := 42) rfl ?_); refine store_event (t := 41) (p := 42) (v := ?vo_w32) (w1 := (((w29.setCell ⟨go19, (a1 : Int).toNat * 3, none⟩ (.string t242)).setCell ⟨go19, (a1 : Int).toNat * 3 + 1, none⟩ (.string t243)).setCell ⟨go19, (a1 : Int).toNat * 3 + 2, none⟩ (.string t244))) ?hg ?ho ?hn ?hr ?_; (case ho => rfl); (case hg => rfl); (case hn => rfl); (case hr => first | (go_simp; done) | (go_simp; rfl)); intro w32 hw; have hg : w29.grownBy w32 (some go19) := (by rw [hw]; exact HP31.2); have hp_ : Kd.R k41 41 w32 w.heap.size (fun k_ => k_ ≠ gb246) (.slice (some ⟨go19, 0, none⟩) t247.length co19) y250 := (by rw [hw, Ny250.out]; exact HP31.1); clear HP31; have n0_ := Aside0.mk (blk_grown (g := gb239) (o := .cells #[.slice (some ad241) l0_0.length c0_0, .string a0_1, .bool a0_2] 24 (0, 0)) (bk BK239.out) hg (Kd.R_ne HO249.out BK239.out (by decide))); have n1_ := Aside0.mk (blk_grown (g := gb240) (o := .cells #[.slice none 0 0, .string (⟨#[]⟩ : ByteArray), .bool false] 24 (0, 0)) (bk BK240.out) hg (Kd.R_ne HO249.out BK240.out (by decide))); have n2_ := Aside0.mk (blk_grown (g := gb246) (o := .cells #[.string t242, .string t243, .string t244] 41 (0, 0)) (bk BK246.out) hg (Kd.R_away HO249.out (fun _ hk => hk))); have n3_ := Aside0.mk (hp_); have n4_ := Aside0.mk ((by rw [hw]; exact below_set (below_set (below_set (HB.out) GB19.out) GB19.out) GB19.out : Below w.heap.size w w32)); clear BK239; clear BK240; clear BK246; clear HO249; clear HB; have BK239 := n0_; have BK240 := n1_; have BK246 := n2_; have HO249 := n3_; have HB := n4_; clear n0_ n1_ n2_ n3_ n4_; clear hg hw hp_; have hcz33_0 : w32.cell? ⟨gb239, 0, none⟩ = some (.slice (some ad241) l0_0.length c0_0) := (blk_cell BK239.out 0).trans rfl; have hcz33_1 : w32.cell? ⟨gb239, 1, none⟩ = some (.string a0_1) := (blk_cell BK239.out 1).trans rfl; have hcz33_2 : w32.cell? ⟨gb239, 2, none⟩ = some (.bool a0_2) := (blk_cell BK239.out 2).trans rfl; have hfz33_0 := blk_frozen BK239.out 0; have hfz33_1 := blk_frozen BK239.out 1; have hfz33_2 := blk_frozen BK239.out 2) | ((with_reducible refine gate_callee (f := 68) rfl ?_); refine goesL_ (some 45) rfl rfl Tryd.func68 (by kernel_rfl) rfl #[.agg #[.slice (some ad241) l0_0.length c0_0, .string a0_1, .bool a0_2], .slice (some ⟨go19, 0, none⟩) t247.length co19] rfl ml ?_; (with_reducible refine (head_Message_with.calls _ _ l0_0 a0_1 a0_2 (fun k_ => some k_ = (.slice (some ⟨go19, 0, none⟩) t247.length co19 : Value).ownBlock) (.slice (some ⟨go19, 0, none⟩) t247.length co19) y250 t251 t254 t255 t256 w _ ?side1 ?side2 ?side3 ?side4 A20.out).mono ?_); (case side1 => repeat (first | (with_reducible first | exact HB.out | apply below_alloc | apply pw_below_drewN | apply below_drew1 | refine below_set ?_ GE239.out | refine below_set ?_ GE240.out | refine below_set ?_ GE246.out) | exact HB.out)); (case side2 => exact Kd.C_kept_came k41_heap HR0_0.out bl (fun k_ hs_ => (fun e_ => Kd.R_base HO249.out k_ e_.symm) hs_)); (case side3 => exact HC0_0.out); (case side4 => exact Kd.R_tight rfl HO249.out); rintro e w34 ⟨v252, rfl, ho0, hb, hkp⟩; refine ⟨_, rfl, ?_⟩; have n0_ := Aside0.mk (blk_kept (bk BK239.out) hkp (fun hs_ => (fun e_ => (Kd.R_ne HO249.out BK239.out (by decide)) e_) hs_)); have n1_ := Aside0.mk (blk_kept (bk BK240.out) hkp (fun hs_ => (fun e_ => (Kd.R_ne HO249.out BK240.out (by decide)) e_) hs_)); have n2_ := Aside0.mk (blk_kept (bk BK246.out) hkp (fun hs_ => (fun e_ => (Kd.R_away HO249.out (fun _ hk => hk)) e_) hs_)); have n3_ := Aside0.mk (Kd.R_mono (ok' := fun k_ => k_ ≠ gb246) ho0 (fun k_ hk_ => Or.elim hk_ (fun hs_ => fun e_ => (Kd.R_away HO249.out (fun _ hk => hk)) (by rw [← e_]; exact hs_)) (fun hn_ => (Kd.freshB (g := gb246) (o := .cells #[.string t242, .string t243, .string t244] 41 (0, 0)) (bk BK246.out) k_ hn_)))); have n4_ := Aside0.mk (hb); clear BK239; clear BK240; clear BK246; clear HB; clear HO249; have BK239 := n0_; have BK240 := n1_; have BK246 := n2_; have HO253 := n3_; have HB := n4_; clear n0_ n1_ n2_ n3_ n4_; (try clear hb); (try clear hkp); (try clear ho0); obtain ⟨Ao35, co35, eo35⟩ := Kd.R_slice HO253.out; subst eo35; have hcz36_0 : w34.cell? ⟨gb240, 0, none⟩ = some (.slice none 0 0) := (blk_cell BK240.out 0).trans rfl; have hcz36_1 : w34.cell? ⟨gb240, 1, none⟩ = some (.string (⟨#[]⟩ : ByteArray)) := (blk_cell BK240.out 1).trans rfl; have hcz36_2 : w34.cell? ⟨gb240, 2, none⟩ = some (.bool false) := (blk_cell BK240.out 2).trans rfl; have hfz36_0 := blk_frozen BK240.out 0; have hfz36_1 := blk_frozen BK240.out 1; have hfz36_2 := blk_frozen BK240.out 2))
        refine bodyPost_ret (results_ct rfl _ _ gb240 24 #[.slice Ao35 t251.length co35, .string t254, .bool t255] (0, 0) _ rfl (by (with_reducible repeat (first | refine blk_drewN ?_ _ | refine blk_drew ?_ | refine blk_alloc ?_ _)); refine blk_put (cs := #[.slice Ao35 t251.length co35, .string t254, .bool false]) ?_ 2 _ rfl; (with_reducible repeat (first | refine blk_drewN ?_ _ | refine blk_drew ?_ | refine blk_alloc ?_ _)); refine blk_put (cs := #[.slice Ao35 t251.length co35, .string (⟨#[]⟩ : ByteArray), .bool false]) ?_ 1 _ rfl; (with_reducible repeat (first | refine blk_drewN ?_ _ | refine blk_drew ?_ | refine blk_alloc ?_ _)); refine blk_put (cs := #[.slice none 0 0, .string (⟨#[]⟩ : ByteArray), .bool false]) ?_ 0 _ rfl; (with_reducible repeat (first | refine blk_drewN ?_ _ | refine blk_drew ?_ | refine blk_alloc ?_ _)); exact BK240.out) Tryd.underlying24 rfl (by kernel_rfl)) rfl ?_
        exact ⟨_, by first | rfl | (simp [errW_none, errW_some] <;> rfl) | (simp [*, errW_none, errW_some] <;> rfl), by (with_reducible repeat (first | apply Kd.R_alloc | apply Kd.R_drewN | apply Kd.R_drew)); exact Kd.R_mono (Kd.R_far (p := ⟨gb240, 2, none⟩) (Kd.R_far (p := ⟨gb240, 1, none⟩) (Kd.R_far (p := ⟨gb240, 0, none⟩) (Kd.R_types HO253.out BK240.out (by decide)) (fun _ hk => hk.2) (.slice Ao35 t251.length co35)) (fun _ hk => hk.2) (.string t254)) (fun _ hk => hk.2) (.bool t255)) (fun _ hk => trivial), by repeat (first | (with_reducible first | exact HB.out | apply below_alloc | apply pw_below_drewN | apply below_drew1 | refine below_set ?_ GE239.out | refine below_set ?_ GE240.out | refine below_set ?_ GE246.out) | exact HB.out)⟩
       ·rw [if_neg c18] at H
        exact absurd H (by simp)
      ·rw [if_neg c16] at H
       have c16b0 : (t245 == 0) = false := beq_eq_false_iff_ne.mpr c16
       have c16b1 : (t245 != 0) = true := bne_iff_ne.mpr c16
       simp only [Option.some.injEq, Prod.mk.injEq] at H
       obtain ⟨rfl, rfl, rfl, rfl⟩ := H
       have hnb37 := NB239_240.out
       have hnc37 := NB240_239.out
       have hcz38_0 : wc.cell? ⟨gb239, 0, none⟩ = some (.slice A0_0 l0_0.length c0_0) := (blk_cell BK239.out 0).trans rfl
       have hcz38_1 : wc.cell? ⟨gb239, 1, none⟩ = some (.string a0_1) := (blk_cell BK239.out 1).trans rfl
       have hcz38_2 : wc.cell? ⟨gb239, 2, none⟩ = some (.bool a0_2) := (blk_cell BK239.out 2).trans rfl
       have hfz38_0 := blk_frozen BK239.out 0
       have hfz38_1 := blk_frozen BK239.out 1
       have hfz38_2 := blk_frozen BK239.out 2
       have p241 : 0 ≤ (a1 : Int) := od
       have q241 : a1 < (l0_0.length : Int) := od
       obtain ⟨ad241, e241, hx241_0, hx241_1, hx241_2⟩ := at_T41 HR0_0.out a1 p241 q241
       cases e241
       replace hx241_0 := (HB.out.cell (World.block_lt_of_cell? w _ hx241_0)).trans hx241_0
       replace hx241_1 := (HB.out.cell (World.block_lt_of_cell? w _ hx241_1)).trans hx241_1
       replace hx241_2 := (HB.out.cell (World.block_lt_of_cell? w _ hx241_2)).trans hx241_2
       replace p241 := eq_true p241
       replace q241 := eq_true q241
       go_wp2_with (first | ((with_reducible refine gate_callee (f := 14) rfl ?_); refine goesL_ (some 29) rfl rfl Tryd.func14 (by kernel_rfl) rfl #[.string ((rd_T41 l0_0 a1).f0), .string a2] rfl ml ?_; (with_reducible refine (head_Lay.calls kj3 ((rd_T41 l0_0 a1).f0) a2 t242 t243 t244 t245 _ ?side1 A15.out).mono ?_); (case side1 => exact Glob.below HG.out bl); rintro e w39 ⟨rfl, hb⟩; refine ⟨_, rfl, ?_⟩; have n0_ := Aside0.mk (kb BK239.out hb); have n1_ := Aside0.mk (kb BK240.out hb); have n2_ := Aside0.mk (below_step bl hb); clear BK239; clear BK240; clear HB; have BK239 := n0_; have BK240 := n1_; have HB := n2_; clear n0_ n1_ n2_; (try clear hb); (try clear hb2); (try clear hk); (try clear hi)) | ((with_reducible refine gate_dst (N := 8) rfl ?_); (try (refine gate_guard (by rfl) ?_; dsimp only)); refine box_event ?hg (N := 8) ?hd (cs := #[.string (⟨#[]⟩ : ByteArray), .string (⟨#[]⟩ : ByteArray), .string (⟨#[]⟩ : ByteArray)]) (t := 41) ?hr ?_; (case hd => rfl); (case hg => rfl); (case hr => first | (go_simp; done) | (go_simp; rfl)); intro gb246 hg w40 hbox hb; have n0_ := Aside0.mk (kb BK239.out hb); have n1_ := Aside0.mk (kb BK240.out hb); have n2_ := Aside0.mk (below_step bl hb); have n3_ := Aside0.mk (hbox); have n4_ := Aside0.mk ((by rw [hg]; exact (below_size bl) : w.heap.size ≤ gb246)); have n5_ := Aside0.mk ((by rw [hg]; exact (below_size bl) : w.heap.size ≤ gb246)); have n6_ := Aside0.mk ((by rw [hg]; exact Nat.ne_of_lt (blk_lt (bk BK239.out)) : gb239 ≠ gb246)); have n7_ := Aside0.mk ((by rw [hg]; exact Nat.ne_of_gt (blk_lt (bk BK239.out)) : gb246 ≠ gb239)); have n8_ := Aside0.mk ((by rw [hg]; exact Nat.ne_of_lt (blk_lt (bk BK240.out)) : gb240 ≠ gb246)); have n9_ := Aside0.mk ((by rw [hg]; exact Nat.ne_of_gt (blk_lt (bk BK240.out)) : gb246 ≠ gb240)); clear BK239; clear BK240; clear HB; have BK239 := n0_; have BK240 := n1_; have HB := n2_; have BK246 := n3_; have GW246 := n4_; have GE246 := n5_; have NB239_246 := n6_; have NB246_239 := n7_; have NB240_246 := n8_; have NB246_240 := n9_; clear n0_ n1_ n2_ n3_ n4_ n5_ n6_ n7_ n8_ n9_; clear hb hbox hg; have hnb41 := NB246_239.out; have hnc41 := NB239_246.out; have hnb42 := NB246_240.out; have hnc42 := NB240_246.out; have hcz43_0 : w40.cell? ⟨gb246, 0, none⟩ = some (.string (⟨#[]⟩ : ByteArray)) := (blk_cell BK246.out 0).trans rfl; have hcz43_1 : w40.cell? ⟨gb246, 1, none⟩ = some (.string (⟨#[]⟩ : ByteArray)) := (blk_cell BK246.out 1).trans rfl; have hcz43_2 : w40.cell? ⟨gb246, 2, none⟩ = some (.string (⟨#[]⟩ : ByteArray)) := (blk_cell BK246.out 2).trans rfl; have hfz43_0 := blk_frozen BK246.out 0; have hfz43_1 := blk_frozen BK246.out 1; have hfz43_2 := blk_frozen BK246.out 2; have hcz44_0 : w40.cell? ⟨gb240, 0, none⟩ = some (.slice none 0 0) := (blk_cell BK240.out 0).trans rfl; have hcz44_1 : w40.cell? ⟨gb240, 1, none⟩ = some (.string (⟨#[]⟩ : ByteArray)) := (blk_cell BK240.out 1).trans rfl; have hcz44_2 : w40.cell? ⟨gb240, 2, none⟩ = some (.bool false) := (blk_cell BK240.out 2).trans rfl; have hfz44_0 := blk_frozen BK240.out 0; have hfz44_1 := blk_frozen BK240.out 1; have hfz44_2 := blk_frozen BK240.out 2))
       refine bodyPost_ret (results_ct rfl _ _ gb240 24 #[.slice none 0 0, .string (⟨#[]⟩ : ByteArray), .bool false] (0, 0) _ rfl (by (with_reducible repeat (first | refine blk_drewN ?_ _ | refine blk_drew ?_ | refine blk_alloc ?_ _)); refine blk_put (cs := #[.slice none 0 0, .string (⟨#[]⟩ : ByteArray), .bool false]) ?_ 2 _ rfl; (with_reducible repeat (first | refine blk_drewN ?_ _ | refine blk_drew ?_ | refine blk_alloc ?_ _)); refine blk_put (cs := #[.slice none 0 0, .string (⟨#[]⟩ : ByteArray), .bool false]) ?_ 1 _ rfl; (with_reducible repeat (first | refine blk_drewN ?_ _ | refine blk_drew ?_ | refine blk_alloc ?_ _)); refine blk_put (cs := #[.slice none 0 0, .string (⟨#[]⟩ : ByteArray), .bool false]) ?_ 0 _ rfl; (with_reducible repeat (first | refine blk_drewN ?_ _ | refine blk_drew ?_ | refine blk_alloc ?_ _)); refine blk_far ?_ NB240_246.out _; (with_reducible repeat (first | refine blk_drewN ?_ _ | refine blk_drew ?_ | refine blk_alloc ?_ _)); refine blk_far ?_ NB240_246.out _; (with_reducible repeat (first | refine blk_drewN ?_ _ | refine blk_drew ?_ | refine blk_alloc ?_ _)); refine blk_far ?_ NB240_246.out _; (with_reducible repeat (first | refine blk_drewN ?_ _ | refine blk_drew ?_ | refine blk_alloc ?_ _)); exact BK240.out) Tryd.underlying24 rfl (by kernel_rfl)) rfl ?_
       exact ⟨_, by first | rfl | (simp [errW_none, errW_some] <;> rfl) | (simp [*, errW_none, errW_some] <;> rfl), by first | exact Kd.R_nil _ _ _ _ _ | exact Kd.N_nil _ _ _ _ _ | exact Kd.V_nil _ _ _ _ _ | exact Kd.Q_nil _ _ _ _ _ | exact Kd.S_nil _ _ _ _ _, by repeat (first | (with_reducible first | exact HB.out | apply below_alloc | apply pw_below_drewN | apply below_drew1 | refine below_set ?_ GE239.out | refine below_set ?_ GE240.out | refine below_set ?_ GE246.out) | exact HB.out)⟩
     ·rw [if_neg c14] at H
      exact absurd H (by simp)
    ·rw [if_neg c13] at H
     exact absurd H (by simp)

end Go.Proofs.YtdciiahlakgikaaDoor.Q
end
