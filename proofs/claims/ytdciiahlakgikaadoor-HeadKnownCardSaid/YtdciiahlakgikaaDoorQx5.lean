/- Walks of functions. -/
import Derived.Test.YtdciiahlakgikaaDoorQx0
section
namespace Go.Proofs.YtdciiahlakgikaaDoor.Q
open Go.RowKit Go.Proofs.YtdciiahlakgikaaDoorW.PrintWords Go.Proofs.YtdciiahlakgikaaDoorW.PrintLast Go.Proofs.YtdciiahlakgikaaDoorW.PrintMore
attribute [local go_sem] max2_int min2_int max_two min_two max_three min_three max_four min_four   -- for this text's walks alone
set_option linter.unusedVariables false
set_option linter.unusedSimpArgs false

attribute [local go_sem high] eqA41
/-! ### postriderlaw07_wakes: function 13 -/
def postriderlaw07_wakes.f (k : Nat)  : Option (Bool) := (head_Parse.f k (⟨#[84, 111, 58, 32, 97, 13, 10, 98, 58, 32, 32, 99, 44, 13, 10, 32, 100, 13, 10, 13, 10, 120, 13, 10]⟩ : ByteArray)).bind fun bt179 => (if bt179.2.2.2 = 0 then (if (bt179.1.length : Int) = 2 then (if 0 < (bt179.1.length : Int) then (if ((rd_T41 bt179.1 0).f1).toList = ([97] : List UInt8) then (if 1 < (bt179.1.length : Int) then (if ((((rd_T41 bt179.1 1).f0).toList) == ([98] : List UInt8) && ((((rd_T41 bt179.1 1).f1).toList) == ([99, 44, 32, 100] : List UInt8) && ((((rd_T41 bt179.1 1).f2).toList) == ([98, 58, 32, 32, 99, 44, 13, 10, 32, 100, 13, 10] : List UInt8)))) = true then (if bt179.2.1.toList = ([120, 13, 10] : List UInt8) then (some (!bt179.2.2.1)) else (some false)) else (some false)) else (none)) else (some false)) else (none)) else (some false)) else (some false))
theorem postriderlaw07_wakes.mono : ∀ k, LeO (postriderlaw07_wakes.f k ) (postriderlaw07_wakes.f (k + 1) ) := by
 intro  k
 unfold postriderlaw07_wakes.f
 repeat' first
   | (with_reducible exact head_Parse.mono _ _)
   | (with_reducible exact LeO.refl _)
   | (with_reducible exact LeO.none _)
   | (with_reducible refine LeO.ite ?_ ?_)
   | (with_reducible refine LeO.bind ?_ (fun _ => ?_))
   | exact head_Parse.mono _ _
   | exact LeO.none _
   | refine LeO.ite ?_ ?_
   | refine LeO.bind ?_ (fun _ => ?_)
set_option maxHeartbeats 8000000 in
set_option maxRecDepth 100000 in
theorem postriderlaw07_wakes.calls (k : Nat)  (r : Bool) (w : World) (hG : Glob w) (h : postriderlaw07_wakes.f k  = some r) :
  Calls Tryd.prog 13 #[] w fun e w' => e = .returned (.bool r) ∧ Below w.heap.size w w' := by
 have hu24 := Tryd.underlying24
 have hu41 := Tryd.underlying41
 have HB := Aside0.mk (Below.refl w.heap.size w)
 have HG := Aside0.mk hG
 clear hG
 have H : ((head_Parse.f k (⟨#[84, 111, 58, 32, 97, 13, 10, 98, 58, 32, 32, 99, 44, 13, 10, 32, 100, 13, 10, 13, 10, 120, 13, 10]⟩ : ByteArray)).bind fun bt179 => (if bt179.2.2.2 = 0 then (if (bt179.1.length : Int) = 2 then (if 0 < (bt179.1.length : Int) then (if ((rd_T41 bt179.1 0).f1).toList = ([97] : List UInt8) then (if 1 < (bt179.1.length : Int) then (if ((((rd_T41 bt179.1 1).f0).toList) == ([98] : List UInt8) && ((((rd_T41 bt179.1 1).f1).toList) == ([99, 44, 32, 100] : List UInt8) && ((((rd_T41 bt179.1 1).f2).toList) == ([98, 58, 32, 32, 99, 44, 13, 10, 32, 100, 13, 10] : List UInt8)))) = true then (if bt179.2.1.toList = ([120, 13, 10] : List UInt8) then (some (!bt179.2.2.1)) else (some false)) else (some false)) else (none)) else (some false)) else (none)) else (some false)) else (some false))) = some r := h
 clear h
 replace H := Option.bind_eq_some_iff.mp H
 obtain ⟨⟨t179, t182, t183, t184⟩, A10, H⟩ := H
 replace H : (if t184 = 0 then (if (t179.length : Int) = 2 then (if 0 < (t179.length : Int) then (if ((rd_T41 t179 0).f1).toList = ([97] : List UInt8) then (if 1 < (t179.length : Int) then (if ((((rd_T41 t179 1).f0).toList) == ([98] : List UInt8) && ((((rd_T41 t179 1).f1).toList) == ([99, 44, 32, 100] : List UInt8) && ((((rd_T41 t179 1).f2).toList) == ([98, 58, 32, 32, 99, 44, 13, 10, 32, 100, 13, 10] : List UInt8)))) = true then (if t182.toList = ([120, 13, 10] : List UInt8) then (some (!t183)) else (some false)) else (some false)) else (none)) else (some false)) else (none)) else (some false)) else (some false)) = some r := H
 have A1 := Aside0.mk A10
 clear A10
 by_cases c2 : t184 = 0
 ·rw [if_pos c2] at H
  have c2b0 : (t184 == 0) = true := beq_iff_eq.mpr c2
  have c2b1 : (t184 != 0) = false := bne_eq_false_iff_eq.mpr c2
  clear c2
  by_cases c3 : (t179.length : Int) = 2
  ·rw [if_pos c3] at H
   have c3b0 : ((t179.length : Int) == 2) = true := beq_iff_eq.mpr c3
   have c3b1 : ((t179.length : Int) != 2) = false := bne_eq_false_iff_eq.mpr c3
   clear c3
   by_cases c4 : 0 < (t179.length : Int)
   ·rw [if_pos c4] at H
    have c4b0 : decide (0 < (t179.length : Int)) = true := decide_eq_true c4
    have c4b1 : decide (0 < t179.length) = true := decide_eq_true (by omega)
    clear c4
    by_cases c5 : ((rd_T41 t179 0).f1).toList = ([97] : List UInt8)
    ·rw [if_pos c5] at H
     have c5b0 : (((rd_T41 t179 0).f1).toList == ([97] : List UInt8)) = true := beq_iff_eq.mpr c5
     have c5b1 : (((rd_T41 t179 0).f1).toList != ([97] : List UInt8)) = false := bne_eq_false_iff_eq.mpr c5
     clear c5
     by_cases c6 : 1 < (t179.length : Int)
     ·rw [if_pos c6] at H
      have c6b0 : decide (1 < (t179.length : Int)) = true := decide_eq_true c6
      have c6b1 : decide (1 < t179.length) = true := decide_eq_true (by omega)
      clear c6
      by_cases c7 : ((((rd_T41 t179 1).f0).toList) == ([98] : List UInt8) && ((((rd_T41 t179 1).f1).toList) == ([99, 44, 32, 100] : List UInt8) && ((((rd_T41 t179 1).f2).toList) == ([98, 58, 32, 32, 99, 44, 13, 10, 32, 100, 13, 10] : List UInt8)))) = true
      ·rw [if_pos c7] at H
       have c7b0 : ((((rd_T41 t179 1).f0).toList) == ([98] : List UInt8) && ((((rd_T41 t179 1).f1).toList) == ([99, 44, 32, 100] : List UInt8) && ((((rd_T41 t179 1).f2).toList) == ([98, 58, 32, 32, 99, 44, 13, 10, 32, 100, 13, 10] : List UInt8)))) = true := c7
       (try (have c7b1 : decide ((((rd_T41 t179 1).f0).toList) = ([98] : List UInt8) && ((((rd_T41 t179 1).f1).toList) == ([99, 44, 32, 100] : List UInt8) && ((((rd_T41 t179 1).f2).toList) == ([98, 58, 32, 32, 99, 44, 13, 10, 32, 100, 13, 10] : List UInt8)))) = true := by simpa using c7))
       (try (have c7b2 : ((((rd_T41 t179 1).f0).toList) == ([98] : List UInt8) && ((((rd_T41 t179 1).f1).toList) == ([99, 44, 32, 100] : List UInt8) && ((((rd_T41 t179 1).f2).toList) == ([98, 58, 32, 32, 99, 44, 13, 10, 32, 100, 13, 10] : List UInt8)))) = true := by simpa using c7))
       clear c7
       by_cases c8 : t182.toList = ([120, 13, 10] : List UInt8)
       ·rw [if_pos c8] at H
        have c8b0 : (t182.toList == ([120, 13, 10] : List UInt8)) = true := beq_iff_eq.mpr c8
        have c8b1 : (t182.toList != ([120, 13, 10] : List UInt8)) = false := bne_eq_false_iff_eq.mpr c8
        clear c8
        obtain rfl := Option.some.inj H
        go_enter Tryd.func13, Tryd.ntmps13
        go_wp2_with (first | ((with_reducible refine gate_callee (f := 9) rfl ?_); refine goesL_ (some 4) rfl rfl Tryd.func9 (by kernel_rfl) rfl #[.string (⟨#[84, 111, 58, 32, 97, 13, 10, 98, 58, 32, 32, 99, 44, 13, 10, 32, 100, 13, 10, 13, 10, 120, 13, 10]⟩ : ByteArray)] rfl ml ?_; (with_reducible refine (head_Parse.calls k (⟨#[84, 111, 58, 32, 97, 13, 10, 98, 58, 32, 32, 99, 44, 13, 10, 32, 100, 13, 10, 13, 10, 120, 13, 10]⟩ : ByteArray) t179 t182 t183 t184 _ ?side1 A1.out).mono ?_); (case side1 => exact Glob.below HG.out bl); rintro e w9 ⟨v180, rfl, ho0, hb⟩; refine ⟨_, rfl, ?_⟩; have n0_ := Aside0.mk (Kd.R_lower ho0 (below_size bl)); have n1_ := Aside0.mk (below_step bl hb); clear HB; have HO181 := n0_; have HB := n1_; clear n0_ n1_; (try clear hb); (try clear hb2); (try clear hk); (try clear hi); (try clear ho0)) | ((with_reducible refine gate_dst (N := 1) rfl ?_); (try (refine gate_guard (by rfl) ?_; dsimp only)); refine box_event ?hg (N := 1) ?hd (cs := #[.slice none 0 0, .string (⟨#[]⟩ : ByteArray), .bool false]) (t := 24) ?hr ?_; (case hd => rfl); (case hg => rfl); (case hr => first | (go_simp; done) | (go_simp; rfl)); intro gb185 hg w10 hbox hb; have n0_ := Aside0.mk (Kd.R_below (kr HO181.out) hb); have n1_ := Aside0.mk (below_step bl hb); have n2_ := Aside0.mk (hbox); have n3_ := Aside0.mk ((by rw [hg]; exact (below_size bl) : w.heap.size ≤ gb185)); have n4_ := Aside0.mk ((by rw [hg]; exact (below_size bl) : w.heap.size ≤ gb185)); clear HO181; clear HB; have HO181 := n0_; have HB := n1_; have BK185 := n2_; have GW185 := n3_; have GE185 := n4_; clear n0_ n1_ n2_ n3_ n4_; clear hb hbox hg; obtain ⟨Ao11, co11, eo11⟩ := Kd.R_slice HO181.out; subst eo11; have hcz12_0 : w10.cell? ⟨gb185, 0, none⟩ = some (.slice none 0 0) := (blk_cell BK185.out 0).trans rfl; have hcz12_1 : w10.cell? ⟨gb185, 1, none⟩ = some (.string (⟨#[]⟩ : ByteArray)) := (blk_cell BK185.out 1).trans rfl; have hcz12_2 : w10.cell? ⟨gb185, 2, none⟩ = some (.bool false) := (blk_cell BK185.out 2).trans rfl; have hfz12_0 := blk_frozen BK185.out 0; have hfz12_1 := blk_frozen BK185.out 1; have hfz12_2 := blk_frozen BK185.out 2; have p186 : 0 ≤ (0 : Int) := (by omega); have q186 : 0 < (t179.length : Int) := od; obtain ⟨ad186, e186, hx186_0, hx186_1, hx186_2⟩ := at_T41 (Kd.R_reads' HO181.out).2.2 0 p186 q186; cases e186; have qi186 : (0 < t179.length) = True := eq_true (by omega); (try rw [show ((0 : Int)).toNat = 0 from rfl] at hx186_0); (try rw [show 0 * 3 = 0 from rfl] at hx186_0); (try rw [Addr.add_zero'] at hx186_0); (try rw [show ((0 : Int)).toNat = 0 from rfl] at hx186_1); (try rw [show 0 * 3 = 0 from rfl] at hx186_1); (try rw [Addr.add_zero'] at hx186_1); (try rw [show ((0 : Int)).toNat = 0 from rfl] at hx186_2); (try rw [show 0 * 3 = 0 from rfl] at hx186_2); (try rw [Addr.add_zero'] at hx186_2); have hn186_0 : ad186.block ≠ gb185 := Kd.own_blk (Kd.R_ne HO181.out BK185.out (by decide)); have hn186_1 : ad186.block ≠ gb185 := Kd.own_blk (Kd.R_ne HO181.out BK185.out (by decide)); have hn186_2 : ad186.block ≠ gb185 := Kd.own_blk (Kd.R_ne HO181.out BK185.out (by decide)); replace hx186_0 := (cell_far (p := ⟨gb185, 0, none⟩) (by first | (rw [add_block]; exact hn186_0) | (show (Addr.add _ _).block ≠ _; rw [add_block]; exact hn186_0) | exact hn186_0) (.slice (some ad186) t179.length co11)).trans hx186_0; replace hx186_1 := (cell_far (p := ⟨gb185, 0, none⟩) (by first | (rw [add_block]; exact hn186_0) | (show (Addr.add _ _).block ≠ _; rw [add_block]; exact hn186_0) | exact hn186_0) (.slice (some ad186) t179.length co11)).trans hx186_1; replace hx186_2 := (cell_far (p := ⟨gb185, 0, none⟩) (by first | (rw [add_block]; exact hn186_0) | (show (Addr.add _ _).block ≠ _; rw [add_block]; exact hn186_0) | exact hn186_0) (.slice (some ad186) t179.length co11)).trans hx186_2; replace hx186_0 := (cell_far (p := ⟨gb185, 1, none⟩) (by first | (rw [add_block]; exact hn186_1) | (show (Addr.add _ _).block ≠ _; rw [add_block]; exact hn186_1) | exact hn186_1) (.string t182)).trans hx186_0; replace hx186_1 := (cell_far (p := ⟨gb185, 1, none⟩) (by first | (rw [add_block]; exact hn186_1) | (show (Addr.add _ _).block ≠ _; rw [add_block]; exact hn186_1) | exact hn186_1) (.string t182)).trans hx186_1; replace hx186_2 := (cell_far (p := ⟨gb185, 1, none⟩) (by first | (rw [add_block]; exact hn186_1) | (show (Addr.add _ _).block ≠ _; rw [add_block]; exact hn186_1) | exact hn186_1) (.string t182)).trans hx186_2; replace hx186_0 := (cell_far (p := ⟨gb185, 2, none⟩) (by first | (rw [add_block]; exact hn186_2) | (show (Addr.add _ _).block ≠ _; rw [add_block]; exact hn186_2) | exact hn186_2) (.bool t183)).trans hx186_0; replace hx186_1 := (cell_far (p := ⟨gb185, 2, none⟩) (by first | (rw [add_block]; exact hn186_2) | (show (Addr.add _ _).block ≠ _; rw [add_block]; exact hn186_2) | exact hn186_2) (.bool t183)).trans hx186_1; replace hx186_2 := (cell_far (p := ⟨gb185, 2, none⟩) (by first | (rw [add_block]; exact hn186_2) | (show (Addr.add _ _).block ≠ _; rw [add_block]; exact hn186_2) | exact hn186_2) (.bool t183)).trans hx186_2; clear hn186_0; clear hn186_1; clear hn186_2; replace p186 := eq_true p186; replace q186 := eq_true q186; have p187 : 0 ≤ (1 : Int) := (by omega); have q187 : 1 < (t179.length : Int) := od; obtain ⟨ad187, e187, hx187_0, hx187_1, hx187_2⟩ := at_T41 (Kd.R_reads' HO181.out).2.2 1 p187 q187; obtain rfl : ad186 = ad187 := (by injection e187); (try simp only [show (1 : Int).toNat = 1 from rfl, Nat.reduceMul, Nat.reduceEqDiff, Go.Addr.add, ↓reduceIte] at hx187_0); (try simp only [show (1 : Int).toNat = 1 from rfl, Nat.reduceMul, Nat.reduceEqDiff, Go.Addr.add, ↓reduceIte] at hx187_1); (try simp only [show (1 : Int).toNat = 1 from rfl, Nat.reduceMul, Nat.reduceEqDiff, Go.Addr.add, ↓reduceIte] at hx187_2); have qi187 : (1 < t179.length) = True := eq_true (by omega); (try rw [show ((1 : Int)).toNat = 1 from rfl] at hx187_0); (try rw [show 1 * 3 = 3 from rfl] at hx187_0); (try rw [show ((1 : Int)).toNat = 1 from rfl] at hx187_1); (try rw [show 1 * 3 = 3 from rfl] at hx187_1); (try rw [show ((1 : Int)).toNat = 1 from rfl] at hx187_2); (try rw [show 1 * 3 = 3 from rfl] at hx187_2); have hn187_0 : ad186.block ≠ gb185 := Kd.own_blk (Kd.R_ne HO181.out BK185.out (by decide)); have hn187_1 : ad186.block ≠ gb185 := Kd.own_blk (Kd.R_ne HO181.out BK185.out (by decide)); have hn187_2 : ad186.block ≠ gb185 := Kd.own_blk (Kd.R_ne HO181.out BK185.out (by decide)); replace hx187_0 := (cell_far (p := ⟨gb185, 0, none⟩) (by first | (rw [add_block]; exact hn187_0) | (show (Addr.add _ _).block ≠ _; rw [add_block]; exact hn187_0) | exact hn187_0) (.slice (some ad186) t179.length co11)).trans hx187_0; replace hx187_1 := (cell_far (p := ⟨gb185, 0, none⟩) (by first | (rw [add_block]; exact hn187_0) | (show (Addr.add _ _).block ≠ _; rw [add_block]; exact hn187_0) | exact hn187_0) (.slice (some ad186) t179.length co11)).trans hx187_1; replace hx187_2 := (cell_far (p := ⟨gb185, 0, none⟩) (by first | (rw [add_block]; exact hn187_0) | (show (Addr.add _ _).block ≠ _; rw [add_block]; exact hn187_0) | exact hn187_0) (.slice (some ad186) t179.length co11)).trans hx187_2; replace hx187_0 := (cell_far (p := ⟨gb185, 1, none⟩) (by first | (rw [add_block]; exact hn187_1) | (show (Addr.add _ _).block ≠ _; rw [add_block]; exact hn187_1) | exact hn187_1) (.string t182)).trans hx187_0; replace hx187_1 := (cell_far (p := ⟨gb185, 1, none⟩) (by first | (rw [add_block]; exact hn187_1) | (show (Addr.add _ _).block ≠ _; rw [add_block]; exact hn187_1) | exact hn187_1) (.string t182)).trans hx187_1; replace hx187_2 := (cell_far (p := ⟨gb185, 1, none⟩) (by first | (rw [add_block]; exact hn187_1) | (show (Addr.add _ _).block ≠ _; rw [add_block]; exact hn187_1) | exact hn187_1) (.string t182)).trans hx187_2; replace hx187_0 := (cell_far (p := ⟨gb185, 2, none⟩) (by first | (rw [add_block]; exact hn187_2) | (show (Addr.add _ _).block ≠ _; rw [add_block]; exact hn187_2) | exact hn187_2) (.bool t183)).trans hx187_0; replace hx187_1 := (cell_far (p := ⟨gb185, 2, none⟩) (by first | (rw [add_block]; exact hn187_2) | (show (Addr.add _ _).block ≠ _; rw [add_block]; exact hn187_2) | exact hn187_2) (.bool t183)).trans hx187_1; replace hx187_2 := (cell_far (p := ⟨gb185, 2, none⟩) (by first | (rw [add_block]; exact hn187_2) | (show (Addr.add _ _).block ≠ _; rw [add_block]; exact hn187_2) | exact hn187_2) (.bool t183)).trans hx187_2; clear hn187_0; clear hn187_1; clear hn187_2; replace p187 := eq_true p187; replace q187 := eq_true q187))
        go_ret
        exact ⟨by first | rfl | (simp [bneNil]; done) | (simp [errW_none, errW_some] <;> rfl) | (simp [*, errW_none, errW_some] <;> rfl), by repeat (first | (with_reducible first | exact HB.out | apply below_alloc | apply pw_below_drewN | apply below_drew1 | refine below_set ?_ GE185.out) | exact HB.out)⟩
       ·rw [if_neg c8] at H
        have c8b0 : (t182.toList == ([120, 13, 10] : List UInt8)) = false := beq_eq_false_iff_ne.mpr c8
        have c8b1 : (t182.toList != ([120, 13, 10] : List UInt8)) = true := bne_iff_ne.mpr c8
        obtain rfl := Option.some.inj H
        go_enter Tryd.func13, Tryd.ntmps13
        go_wp2_with (first | ((with_reducible refine gate_callee (f := 9) rfl ?_); refine goesL_ (some 4) rfl rfl Tryd.func9 (by kernel_rfl) rfl #[.string (⟨#[84, 111, 58, 32, 97, 13, 10, 98, 58, 32, 32, 99, 44, 13, 10, 32, 100, 13, 10, 13, 10, 120, 13, 10]⟩ : ByteArray)] rfl ml ?_; (with_reducible refine (head_Parse.calls k (⟨#[84, 111, 58, 32, 97, 13, 10, 98, 58, 32, 32, 99, 44, 13, 10, 32, 100, 13, 10, 13, 10, 120, 13, 10]⟩ : ByteArray) t179 t182 t183 t184 _ ?side1 A1.out).mono ?_); (case side1 => exact Glob.below HG.out bl); rintro e w13 ⟨v180, rfl, ho0, hb⟩; refine ⟨_, rfl, ?_⟩; have n0_ := Aside0.mk (Kd.R_lower ho0 (below_size bl)); have n1_ := Aside0.mk (below_step bl hb); clear HB; have HO181 := n0_; have HB := n1_; clear n0_ n1_; (try clear hb); (try clear hb2); (try clear hk); (try clear hi); (try clear ho0)) | ((with_reducible refine gate_dst (N := 1) rfl ?_); (try (refine gate_guard (by rfl) ?_; dsimp only)); refine box_event ?hg (N := 1) ?hd (cs := #[.slice none 0 0, .string (⟨#[]⟩ : ByteArray), .bool false]) (t := 24) ?hr ?_; (case hd => rfl); (case hg => rfl); (case hr => first | (go_simp; done) | (go_simp; rfl)); intro gb185 hg w14 hbox hb; have n0_ := Aside0.mk (Kd.R_below (kr HO181.out) hb); have n1_ := Aside0.mk (below_step bl hb); have n2_ := Aside0.mk (hbox); have n3_ := Aside0.mk ((by rw [hg]; exact (below_size bl) : w.heap.size ≤ gb185)); have n4_ := Aside0.mk ((by rw [hg]; exact (below_size bl) : w.heap.size ≤ gb185)); clear HO181; clear HB; have HO181 := n0_; have HB := n1_; have BK185 := n2_; have GW185 := n3_; have GE185 := n4_; clear n0_ n1_ n2_ n3_ n4_; clear hb hbox hg; obtain ⟨Ao15, co15, eo15⟩ := Kd.R_slice HO181.out; subst eo15; have hcz16_0 : w14.cell? ⟨gb185, 0, none⟩ = some (.slice none 0 0) := (blk_cell BK185.out 0).trans rfl; have hcz16_1 : w14.cell? ⟨gb185, 1, none⟩ = some (.string (⟨#[]⟩ : ByteArray)) := (blk_cell BK185.out 1).trans rfl; have hcz16_2 : w14.cell? ⟨gb185, 2, none⟩ = some (.bool false) := (blk_cell BK185.out 2).trans rfl; have hfz16_0 := blk_frozen BK185.out 0; have hfz16_1 := blk_frozen BK185.out 1; have hfz16_2 := blk_frozen BK185.out 2; have p186 : 0 ≤ (0 : Int) := (by omega); have q186 : 0 < (t179.length : Int) := od; obtain ⟨ad186, e186, hx186_0, hx186_1, hx186_2⟩ := at_T41 (Kd.R_reads' HO181.out).2.2 0 p186 q186; cases e186; have qi186 : (0 < t179.length) = True := eq_true (by omega); (try rw [show ((0 : Int)).toNat = 0 from rfl] at hx186_0); (try rw [show 0 * 3 = 0 from rfl] at hx186_0); (try rw [Addr.add_zero'] at hx186_0); (try rw [show ((0 : Int)).toNat = 0 from rfl] at hx186_1); (try rw [show 0 * 3 = 0 from rfl] at hx186_1); (try rw [Addr.add_zero'] at hx186_1); (try rw [show ((0 : Int)).toNat = 0 from rfl] at hx186_2); (try rw [show 0 * 3 = 0 from rfl] at hx186_2); (try rw [Addr.add_zero'] at hx186_2); have hn186_0 : ad186.block ≠ gb185 := Kd.own_blk (Kd.R_ne HO181.out BK185.out (by decide)); have hn186_1 : ad186.block ≠ gb185 := Kd.own_blk (Kd.R_ne HO181.out BK185.out (by decide)); have hn186_2 : ad186.block ≠ gb185 := Kd.own_blk (Kd.R_ne HO181.out BK185.out (by decide)); replace hx186_0 := (cell_far (p := ⟨gb185, 0, none⟩) (by first | (rw [add_block]; exact hn186_0) | (show (Addr.add _ _).block ≠ _; rw [add_block]; exact hn186_0) | exact hn186_0) (.slice (some ad186) t179.length co15)).trans hx186_0; replace hx186_1 := (cell_far (p := ⟨gb185, 0, none⟩) (by first | (rw [add_block]; exact hn186_0) | (show (Addr.add _ _).block ≠ _; rw [add_block]; exact hn186_0) | exact hn186_0) (.slice (some ad186) t179.length co15)).trans hx186_1; replace hx186_2 := (cell_far (p := ⟨gb185, 0, none⟩) (by first | (rw [add_block]; exact hn186_0) | (show (Addr.add _ _).block ≠ _; rw [add_block]; exact hn186_0) | exact hn186_0) (.slice (some ad186) t179.length co15)).trans hx186_2; replace hx186_0 := (cell_far (p := ⟨gb185, 1, none⟩) (by first | (rw [add_block]; exact hn186_1) | (show (Addr.add _ _).block ≠ _; rw [add_block]; exact hn186_1) | exact hn186_1) (.string t182)).trans hx186_0; replace hx186_1 := (cell_far (p := ⟨gb185, 1, none⟩) (by first | (rw [add_block]; exact hn186_1) | (show (Addr.add _ _).block ≠ _; rw [add_block]; exact hn186_1) | exact hn186_1) (.string t182)).trans hx186_1; replace hx186_2 := (cell_far (p := ⟨gb185, 1, none⟩) (by first | (rw [add_block]; exact hn186_1) | (show (Addr.add _ _).block ≠ _; rw [add_block]; exact hn186_1) | exact hn186_1) (.string t182)).trans hx186_2; replace hx186_0 := (cell_far (p := ⟨gb185, 2, none⟩) (by first | (rw [add_block]; exact hn186_2) | (show (Addr.add _ _).block ≠ _; rw [add_block]; exact hn186_2) | exact hn186_2) (.bool t183)).trans hx186_0; replace hx186_1 := (cell_far (p := ⟨gb185, 2, none⟩) (by first | (rw [add_block]; exact hn186_2) | (show (Addr.add _ _).block ≠ _; rw [add_block]; exact hn186_2) | exact hn186_2) (.bool t183)).trans hx186_1; replace hx186_2 := (cell_far (p := ⟨gb185, 2, none⟩) (by first | (rw [add_block]; exact hn186_2) | (show (Addr.add _ _).block ≠ _; rw [add_block]; exact hn186_2) | exact hn186_2) (.bool t183)).trans hx186_2; clear hn186_0; clear hn186_1; clear hn186_2; replace p186 := eq_true p186; replace q186 := eq_true q186; have p187 : 0 ≤ (1 : Int) := (by omega); have q187 : 1 < (t179.length : Int) := od; obtain ⟨ad187, e187, hx187_0, hx187_1, hx187_2⟩ := at_T41 (Kd.R_reads' HO181.out).2.2 1 p187 q187; obtain rfl : ad186 = ad187 := (by injection e187); (try simp only [show (1 : Int).toNat = 1 from rfl, Nat.reduceMul, Nat.reduceEqDiff, Go.Addr.add, ↓reduceIte] at hx187_0); (try simp only [show (1 : Int).toNat = 1 from rfl, Nat.reduceMul, Nat.reduceEqDiff, Go.Addr.add, ↓reduceIte] at hx187_1); (try simp only [show (1 : Int).toNat = 1 from rfl, Nat.reduceMul, Nat.reduceEqDiff, Go.Addr.add, ↓reduceIte] at hx187_2); have qi187 : (1 < t179.length) = True := eq_true (by omega); (try rw [show ((1 : Int)).toNat = 1 from rfl] at hx187_0); (try rw [show 1 * 3 = 3 from rfl] at hx187_0); (try rw [show ((1 : Int)).toNat = 1 from rfl] at hx187_1); (try rw [show 1 * 3 = 3 from rfl] at hx187_1); (try rw [show ((1 : Int)).toNat = 1 from rfl] at hx187_2); (try rw [show 1 * 3 = 3 from rfl] at hx187_2); have hn187_0 : ad186.block ≠ gb185 := Kd.own_blk (Kd.R_ne HO181.out BK185.out (by decide)); have hn187_1 : ad186.block ≠ gb185 := Kd.own_blk (Kd.R_ne HO181.out BK185.out (by decide)); have hn187_2 : ad186.block ≠ gb185 := Kd.own_blk (Kd.R_ne HO181.out BK185.out (by decide)); replace hx187_0 := (cell_far (p := ⟨gb185, 0, none⟩) (by first | (rw [add_block]; exact hn187_0) | (show (Addr.add _ _).block ≠ _; rw [add_block]; exact hn187_0) | exact hn187_0) (.slice (some ad186) t179.length co15)).trans hx187_0; replace hx187_1 := (cell_far (p := ⟨gb185, 0, none⟩) (by first | (rw [add_block]; exact hn187_0) | (show (Addr.add _ _).block ≠ _; rw [add_block]; exact hn187_0) | exact hn187_0) (.slice (some ad186) t179.length co15)).trans hx187_1; replace hx187_2 := (cell_far (p := ⟨gb185, 0, none⟩) (by first | (rw [add_block]; exact hn187_0) | (show (Addr.add _ _).block ≠ _; rw [add_block]; exact hn187_0) | exact hn187_0) (.slice (some ad186) t179.length co15)).trans hx187_2; replace hx187_0 := (cell_far (p := ⟨gb185, 1, none⟩) (by first | (rw [add_block]; exact hn187_1) | (show (Addr.add _ _).block ≠ _; rw [add_block]; exact hn187_1) | exact hn187_1) (.string t182)).trans hx187_0; replace hx187_1 := (cell_far (p := ⟨gb185, 1, none⟩) (by first | (rw [add_block]; exact hn187_1) | (show (Addr.add _ _).block ≠ _; rw [add_block]; exact hn187_1) | exact hn187_1) (.string t182)).trans hx187_1; replace hx187_2 := (cell_far (p := ⟨gb185, 1, none⟩) (by first | (rw [add_block]; exact hn187_1) | (show (Addr.add _ _).block ≠ _; rw [add_block]; exact hn187_1) | exact hn187_1) (.string t182)).trans hx187_2; replace hx187_0 := (cell_far (p := ⟨gb185, 2, none⟩) (by first | (rw [add_block]; exact hn187_2) | (show (Addr.add _ _).block ≠ _; rw [add_block]; exact hn187_2) | exact hn187_2) (.bool t183)).trans hx187_0; replace hx187_1 := (cell_far (p := ⟨gb185, 2, none⟩) (by first | (rw [add_block]; exact hn187_2) | (show (Addr.add _ _).block ≠ _; rw [add_block]; exact hn187_2) | exact hn187_2) (.bool t183)).trans hx187_1; replace hx187_2 := (cell_far (p := ⟨gb185, 2, none⟩) (by first | (rw [add_block]; exact hn187_2) | (show (Addr.add _ _).block ≠ _; rw [add_block]; exact hn187_2) | exact hn187_2) (.bool t183)).trans hx187_2; clear hn187_0; clear hn187_1; clear hn187_2; replace p187 := eq_true p187; replace q187 := eq_true q187))
        go_ret
        exact ⟨by first | rfl | (simp [bneNil]; done) | (simp [errW_none, errW_some] <;> rfl) | (simp [*, errW_none, errW_some] <;> rfl), by repeat (first | (with_reducible first | exact HB.out | apply below_alloc | apply pw_below_drewN | apply below_drew1 | refine below_set ?_ GE185.out) | exact HB.out)⟩
      ·rw [if_neg c7] at H
       have c7b0 : ((((rd_T41 t179 1).f0).toList) == ([98] : List UInt8) && ((((rd_T41 t179 1).f1).toList) == ([99, 44, 32, 100] : List UInt8) && ((((rd_T41 t179 1).f2).toList) == ([98, 58, 32, 32, 99, 44, 13, 10, 32, 100, 13, 10] : List UInt8)))) = false := by simpa using c7
       (try (have c7b1 : decide ((((rd_T41 t179 1).f0).toList) = ([98] : List UInt8) && ((((rd_T41 t179 1).f1).toList) == ([99, 44, 32, 100] : List UInt8) && ((((rd_T41 t179 1).f2).toList) == ([98, 58, 32, 32, 99, 44, 13, 10, 32, 100, 13, 10] : List UInt8)))) = false := by simpa using c7))
       (try (have c7b2 : ((((rd_T41 t179 1).f0).toList) == ([98] : List UInt8) && ((((rd_T41 t179 1).f1).toList) == ([99, 44, 32, 100] : List UInt8) && ((((rd_T41 t179 1).f2).toList) == ([98, 58, 32, 32, 99, 44, 13, 10, 32, 100, 13, 10] : List UInt8)))) = false := by simpa using c7))
       (try (have c7b3 : ¬ ((((rd_T41 t179 1).f0).toList) = ([98] : List UInt8) && ((((rd_T41 t179 1).f1).toList) == ([99, 44, 32, 100] : List UInt8) && ((((rd_T41 t179 1).f2).toList) == ([98, 58, 32, 32, 99, 44, 13, 10, 32, 100, 13, 10] : List UInt8)))) := by simpa using c7))
       clear c7
       obtain rfl := Option.some.inj H
       go_enter Tryd.func13, Tryd.ntmps13
       go_wp2_with (first | ((with_reducible refine gate_callee (f := 9) rfl ?_); refine goesL_ (some 4) rfl rfl Tryd.func9 (by kernel_rfl) rfl #[.string (⟨#[84, 111, 58, 32, 97, 13, 10, 98, 58, 32, 32, 99, 44, 13, 10, 32, 100, 13, 10, 13, 10, 120, 13, 10]⟩ : ByteArray)] rfl ml ?_; (with_reducible refine (head_Parse.calls k (⟨#[84, 111, 58, 32, 97, 13, 10, 98, 58, 32, 32, 99, 44, 13, 10, 32, 100, 13, 10, 13, 10, 120, 13, 10]⟩ : ByteArray) t179 t182 t183 t184 _ ?side1 A1.out).mono ?_); (case side1 => exact Glob.below HG.out bl); rintro e w17 ⟨v180, rfl, ho0, hb⟩; refine ⟨_, rfl, ?_⟩; have n0_ := Aside0.mk (Kd.R_lower ho0 (below_size bl)); have n1_ := Aside0.mk (below_step bl hb); clear HB; have HO181 := n0_; have HB := n1_; clear n0_ n1_; (try clear hb); (try clear hb2); (try clear hk); (try clear hi); (try clear ho0)) | ((with_reducible refine gate_dst (N := 1) rfl ?_); (try (refine gate_guard (by rfl) ?_; dsimp only)); refine box_event ?hg (N := 1) ?hd (cs := #[.slice none 0 0, .string (⟨#[]⟩ : ByteArray), .bool false]) (t := 24) ?hr ?_; (case hd => rfl); (case hg => rfl); (case hr => first | (go_simp; done) | (go_simp; rfl)); intro gb185 hg w18 hbox hb; have n0_ := Aside0.mk (Kd.R_below (kr HO181.out) hb); have n1_ := Aside0.mk (below_step bl hb); have n2_ := Aside0.mk (hbox); have n3_ := Aside0.mk ((by rw [hg]; exact (below_size bl) : w.heap.size ≤ gb185)); have n4_ := Aside0.mk ((by rw [hg]; exact (below_size bl) : w.heap.size ≤ gb185)); clear HO181; clear HB; have HO181 := n0_; have HB := n1_; have BK185 := n2_; have GW185 := n3_; have GE185 := n4_; clear n0_ n1_ n2_ n3_ n4_; clear hb hbox hg; obtain ⟨Ao19, co19, eo19⟩ := Kd.R_slice HO181.out; subst eo19; have hcz20_0 : w18.cell? ⟨gb185, 0, none⟩ = some (.slice none 0 0) := (blk_cell BK185.out 0).trans rfl; have hcz20_1 : w18.cell? ⟨gb185, 1, none⟩ = some (.string (⟨#[]⟩ : ByteArray)) := (blk_cell BK185.out 1).trans rfl; have hcz20_2 : w18.cell? ⟨gb185, 2, none⟩ = some (.bool false) := (blk_cell BK185.out 2).trans rfl; have hfz20_0 := blk_frozen BK185.out 0; have hfz20_1 := blk_frozen BK185.out 1; have hfz20_2 := blk_frozen BK185.out 2; have p186 : 0 ≤ (0 : Int) := (by omega); have q186 : 0 < (t179.length : Int) := od; obtain ⟨ad186, e186, hx186_0, hx186_1, hx186_2⟩ := at_T41 (Kd.R_reads' HO181.out).2.2 0 p186 q186; cases e186; have qi186 : (0 < t179.length) = True := eq_true (by omega); (try rw [show ((0 : Int)).toNat = 0 from rfl] at hx186_0); (try rw [show 0 * 3 = 0 from rfl] at hx186_0); (try rw [Addr.add_zero'] at hx186_0); (try rw [show ((0 : Int)).toNat = 0 from rfl] at hx186_1); (try rw [show 0 * 3 = 0 from rfl] at hx186_1); (try rw [Addr.add_zero'] at hx186_1); (try rw [show ((0 : Int)).toNat = 0 from rfl] at hx186_2); (try rw [show 0 * 3 = 0 from rfl] at hx186_2); (try rw [Addr.add_zero'] at hx186_2); have hn186_0 : ad186.block ≠ gb185 := Kd.own_blk (Kd.R_ne HO181.out BK185.out (by decide)); have hn186_1 : ad186.block ≠ gb185 := Kd.own_blk (Kd.R_ne HO181.out BK185.out (by decide)); have hn186_2 : ad186.block ≠ gb185 := Kd.own_blk (Kd.R_ne HO181.out BK185.out (by decide)); replace hx186_0 := (cell_far (p := ⟨gb185, 0, none⟩) (by first | (rw [add_block]; exact hn186_0) | (show (Addr.add _ _).block ≠ _; rw [add_block]; exact hn186_0) | exact hn186_0) (.slice (some ad186) t179.length co19)).trans hx186_0; replace hx186_1 := (cell_far (p := ⟨gb185, 0, none⟩) (by first | (rw [add_block]; exact hn186_0) | (show (Addr.add _ _).block ≠ _; rw [add_block]; exact hn186_0) | exact hn186_0) (.slice (some ad186) t179.length co19)).trans hx186_1; replace hx186_2 := (cell_far (p := ⟨gb185, 0, none⟩) (by first | (rw [add_block]; exact hn186_0) | (show (Addr.add _ _).block ≠ _; rw [add_block]; exact hn186_0) | exact hn186_0) (.slice (some ad186) t179.length co19)).trans hx186_2; replace hx186_0 := (cell_far (p := ⟨gb185, 1, none⟩) (by first | (rw [add_block]; exact hn186_1) | (show (Addr.add _ _).block ≠ _; rw [add_block]; exact hn186_1) | exact hn186_1) (.string t182)).trans hx186_0; replace hx186_1 := (cell_far (p := ⟨gb185, 1, none⟩) (by first | (rw [add_block]; exact hn186_1) | (show (Addr.add _ _).block ≠ _; rw [add_block]; exact hn186_1) | exact hn186_1) (.string t182)).trans hx186_1; replace hx186_2 := (cell_far (p := ⟨gb185, 1, none⟩) (by first | (rw [add_block]; exact hn186_1) | (show (Addr.add _ _).block ≠ _; rw [add_block]; exact hn186_1) | exact hn186_1) (.string t182)).trans hx186_2; replace hx186_0 := (cell_far (p := ⟨gb185, 2, none⟩) (by first | (rw [add_block]; exact hn186_2) | (show (Addr.add _ _).block ≠ _; rw [add_block]; exact hn186_2) | exact hn186_2) (.bool t183)).trans hx186_0; replace hx186_1 := (cell_far (p := ⟨gb185, 2, none⟩) (by first | (rw [add_block]; exact hn186_2) | (show (Addr.add _ _).block ≠ _; rw [add_block]; exact hn186_2) | exact hn186_2) (.bool t183)).trans hx186_1; replace hx186_2 := (cell_far (p := ⟨gb185, 2, none⟩) (by first | (rw [add_block]; exact hn186_2) | (show (Addr.add _ _).block ≠ _; rw [add_block]; exact hn186_2) | exact hn186_2) (.bool t183)).trans hx186_2; clear hn186_0; clear hn186_1; clear hn186_2; replace p186 := eq_true p186; replace q186 := eq_true q186; have p187 : 0 ≤ (1 : Int) := (by omega); have q187 : 1 < (t179.length : Int) := od; obtain ⟨ad187, e187, hx187_0, hx187_1, hx187_2⟩ := at_T41 (Kd.R_reads' HO181.out).2.2 1 p187 q187; obtain rfl : ad186 = ad187 := (by injection e187); (try simp only [show (1 : Int).toNat = 1 from rfl, Nat.reduceMul, Nat.reduceEqDiff, Go.Addr.add, ↓reduceIte] at hx187_0); (try simp only [show (1 : Int).toNat = 1 from rfl, Nat.reduceMul, Nat.reduceEqDiff, Go.Addr.add, ↓reduceIte] at hx187_1); (try simp only [show (1 : Int).toNat = 1 from rfl, Nat.reduceMul, Nat.reduceEqDiff, Go.Addr.add, ↓reduceIte] at hx187_2); have qi187 : (1 < t179.length) = True := eq_true (by omega); (try rw [show ((1 : Int)).toNat = 1 from rfl] at hx187_0); (try rw [show 1 * 3 = 3 from rfl] at hx187_0); (try rw [show ((1 : Int)).toNat = 1 from rfl] at hx187_1); (try rw [show 1 * 3 = 3 from rfl] at hx187_1); (try rw [show ((1 : Int)).toNat = 1 from rfl] at hx187_2); (try rw [show 1 * 3 = 3 from rfl] at hx187_2); have hn187_0 : ad186.block ≠ gb185 := Kd.own_blk (Kd.R_ne HO181.out BK185.out (by decide)); have hn187_1 : ad186.block ≠ gb185 := Kd.own_blk (Kd.R_ne HO181.out BK185.out (by decide)); have hn187_2 : ad186.block ≠ gb185 := Kd.own_blk (Kd.R_ne HO181.out BK185.out (by decide)); replace hx187_0 := (cell_far (p := ⟨gb185, 0, none⟩) (by first | (rw [add_block]; exact hn187_0) | (show (Addr.add _ _).block ≠ _; rw [add_block]; exact hn187_0) | exact hn187_0) (.slice (some ad186) t179.length co19)).trans hx187_0; replace hx187_1 := (cell_far (p := ⟨gb185, 0, none⟩) (by first | (rw [add_block]; exact hn187_0) | (show (Addr.add _ _).block ≠ _; rw [add_block]; exact hn187_0) | exact hn187_0) (.slice (some ad186) t179.length co19)).trans hx187_1; replace hx187_2 := (cell_far (p := ⟨gb185, 0, none⟩) (by first | (rw [add_block]; exact hn187_0) | (show (Addr.add _ _).block ≠ _; rw [add_block]; exact hn187_0) | exact hn187_0) (.slice (some ad186) t179.length co19)).trans hx187_2; replace hx187_0 := (cell_far (p := ⟨gb185, 1, none⟩) (by first | (rw [add_block]; exact hn187_1) | (show (Addr.add _ _).block ≠ _; rw [add_block]; exact hn187_1) | exact hn187_1) (.string t182)).trans hx187_0; replace hx187_1 := (cell_far (p := ⟨gb185, 1, none⟩) (by first | (rw [add_block]; exact hn187_1) | (show (Addr.add _ _).block ≠ _; rw [add_block]; exact hn187_1) | exact hn187_1) (.string t182)).trans hx187_1; replace hx187_2 := (cell_far (p := ⟨gb185, 1, none⟩) (by first | (rw [add_block]; exact hn187_1) | (show (Addr.add _ _).block ≠ _; rw [add_block]; exact hn187_1) | exact hn187_1) (.string t182)).trans hx187_2; replace hx187_0 := (cell_far (p := ⟨gb185, 2, none⟩) (by first | (rw [add_block]; exact hn187_2) | (show (Addr.add _ _).block ≠ _; rw [add_block]; exact hn187_2) | exact hn187_2) (.bool t183)).trans hx187_0; replace hx187_1 := (cell_far (p := ⟨gb185, 2, none⟩) (by first | (rw [add_block]; exact hn187_2) | (show (Addr.add _ _).block ≠ _; rw [add_block]; exact hn187_2) | exact hn187_2) (.bool t183)).trans hx187_1; replace hx187_2 := (cell_far (p := ⟨gb185, 2, none⟩) (by first | (rw [add_block]; exact hn187_2) | (show (Addr.add _ _).block ≠ _; rw [add_block]; exact hn187_2) | exact hn187_2) (.bool t183)).trans hx187_2; clear hn187_0; clear hn187_1; clear hn187_2; replace p187 := eq_true p187; replace q187 := eq_true q187))
       go_ret
       exact ⟨by first | rfl | (simp [bneNil]; done) | (simp [errW_none, errW_some] <;> rfl) | (simp [*, errW_none, errW_some] <;> rfl), by repeat (first | (with_reducible first | exact HB.out | apply below_alloc | apply pw_below_drewN | apply below_drew1 | refine below_set ?_ GE185.out) | exact HB.out)⟩
     ·rw [if_neg c6] at H
      exact absurd H (by simp)
    ·rw [if_neg c5] at H
     have c5b0 : (((rd_T41 t179 0).f1).toList == ([97] : List UInt8)) = false := beq_eq_false_iff_ne.mpr c5
     have c5b1 : (((rd_T41 t179 0).f1).toList != ([97] : List UInt8)) = true := bne_iff_ne.mpr c5
     obtain rfl := Option.some.inj H
     go_enter Tryd.func13, Tryd.ntmps13
     go_wp2_with (first | ((with_reducible refine gate_callee (f := 9) rfl ?_); refine goesL_ (some 4) rfl rfl Tryd.func9 (by kernel_rfl) rfl #[.string (⟨#[84, 111, 58, 32, 97, 13, 10, 98, 58, 32, 32, 99, 44, 13, 10, 32, 100, 13, 10, 13, 10, 120, 13, 10]⟩ : ByteArray)] rfl ml ?_; (with_reducible refine (head_Parse.calls k (⟨#[84, 111, 58, 32, 97, 13, 10, 98, 58, 32, 32, 99, 44, 13, 10, 32, 100, 13, 10, 13, 10, 120, 13, 10]⟩ : ByteArray) t179 t182 t183 t184 _ ?side1 A1.out).mono ?_); (case side1 => exact Glob.below HG.out bl); rintro e w21 ⟨v180, rfl, ho0, hb⟩; refine ⟨_, rfl, ?_⟩; have n0_ := Aside0.mk (Kd.R_lower ho0 (below_size bl)); have n1_ := Aside0.mk (below_step bl hb); clear HB; have HO181 := n0_; have HB := n1_; clear n0_ n1_; (try clear hb); (try clear hb2); (try clear hk); (try clear hi); (try clear ho0)) | ((with_reducible refine gate_dst (N := 1) rfl ?_); (try (refine gate_guard (by rfl) ?_; dsimp only)); refine box_event ?hg (N := 1) ?hd (cs := #[.slice none 0 0, .string (⟨#[]⟩ : ByteArray), .bool false]) (t := 24) ?hr ?_; (case hd => rfl); (case hg => rfl); (case hr => first | (go_simp; done) | (go_simp; rfl)); intro gb185 hg w22 hbox hb; have n0_ := Aside0.mk (Kd.R_below (kr HO181.out) hb); have n1_ := Aside0.mk (below_step bl hb); have n2_ := Aside0.mk (hbox); have n3_ := Aside0.mk ((by rw [hg]; exact (below_size bl) : w.heap.size ≤ gb185)); have n4_ := Aside0.mk ((by rw [hg]; exact (below_size bl) : w.heap.size ≤ gb185)); clear HO181; clear HB; have HO181 := n0_; have HB := n1_; have BK185 := n2_; have GW185 := n3_; have GE185 := n4_; clear n0_ n1_ n2_ n3_ n4_; clear hb hbox hg; obtain ⟨Ao23, co23, eo23⟩ := Kd.R_slice HO181.out; subst eo23; have hcz24_0 : w22.cell? ⟨gb185, 0, none⟩ = some (.slice none 0 0) := (blk_cell BK185.out 0).trans rfl; have hcz24_1 : w22.cell? ⟨gb185, 1, none⟩ = some (.string (⟨#[]⟩ : ByteArray)) := (blk_cell BK185.out 1).trans rfl; have hcz24_2 : w22.cell? ⟨gb185, 2, none⟩ = some (.bool false) := (blk_cell BK185.out 2).trans rfl; have hfz24_0 := blk_frozen BK185.out 0; have hfz24_1 := blk_frozen BK185.out 1; have hfz24_2 := blk_frozen BK185.out 2; have p186 : 0 ≤ (0 : Int) := (by omega); have q186 : 0 < (t179.length : Int) := od; obtain ⟨ad186, e186, hx186_0, hx186_1, hx186_2⟩ := at_T41 (Kd.R_reads' HO181.out).2.2 0 p186 q186; cases e186; have qi186 : (0 < t179.length) = True := eq_true (by omega); (try rw [show ((0 : Int)).toNat = 0 from rfl] at hx186_0); (try rw [show 0 * 3 = 0 from rfl] at hx186_0); (try rw [Addr.add_zero'] at hx186_0); (try rw [show ((0 : Int)).toNat = 0 from rfl] at hx186_1); (try rw [show 0 * 3 = 0 from rfl] at hx186_1); (try rw [Addr.add_zero'] at hx186_1); (try rw [show ((0 : Int)).toNat = 0 from rfl] at hx186_2); (try rw [show 0 * 3 = 0 from rfl] at hx186_2); (try rw [Addr.add_zero'] at hx186_2); have hn186_0 : ad186.block ≠ gb185 := Kd.own_blk (Kd.R_ne HO181.out BK185.out (by decide)); have hn186_1 : ad186.block ≠ gb185 := Kd.own_blk (Kd.R_ne HO181.out BK185.out (by decide)); have hn186_2 : ad186.block ≠ gb185 := Kd.own_blk (Kd.R_ne HO181.out BK185.out (by decide)); replace hx186_0 := (cell_far (p := ⟨gb185, 0, none⟩) (by first | (rw [add_block]; exact hn186_0) | (show (Addr.add _ _).block ≠ _; rw [add_block]; exact hn186_0) | exact hn186_0) (.slice (some ad186) t179.length co23)).trans hx186_0; replace hx186_1 := (cell_far (p := ⟨gb185, 0, none⟩) (by first | (rw [add_block]; exact hn186_0) | (show (Addr.add _ _).block ≠ _; rw [add_block]; exact hn186_0) | exact hn186_0) (.slice (some ad186) t179.length co23)).trans hx186_1; replace hx186_2 := (cell_far (p := ⟨gb185, 0, none⟩) (by first | (rw [add_block]; exact hn186_0) | (show (Addr.add _ _).block ≠ _; rw [add_block]; exact hn186_0) | exact hn186_0) (.slice (some ad186) t179.length co23)).trans hx186_2; replace hx186_0 := (cell_far (p := ⟨gb185, 1, none⟩) (by first | (rw [add_block]; exact hn186_1) | (show (Addr.add _ _).block ≠ _; rw [add_block]; exact hn186_1) | exact hn186_1) (.string t182)).trans hx186_0; replace hx186_1 := (cell_far (p := ⟨gb185, 1, none⟩) (by first | (rw [add_block]; exact hn186_1) | (show (Addr.add _ _).block ≠ _; rw [add_block]; exact hn186_1) | exact hn186_1) (.string t182)).trans hx186_1; replace hx186_2 := (cell_far (p := ⟨gb185, 1, none⟩) (by first | (rw [add_block]; exact hn186_1) | (show (Addr.add _ _).block ≠ _; rw [add_block]; exact hn186_1) | exact hn186_1) (.string t182)).trans hx186_2; replace hx186_0 := (cell_far (p := ⟨gb185, 2, none⟩) (by first | (rw [add_block]; exact hn186_2) | (show (Addr.add _ _).block ≠ _; rw [add_block]; exact hn186_2) | exact hn186_2) (.bool t183)).trans hx186_0; replace hx186_1 := (cell_far (p := ⟨gb185, 2, none⟩) (by first | (rw [add_block]; exact hn186_2) | (show (Addr.add _ _).block ≠ _; rw [add_block]; exact hn186_2) | exact hn186_2) (.bool t183)).trans hx186_1; replace hx186_2 := (cell_far (p := ⟨gb185, 2, none⟩) (by first | (rw [add_block]; exact hn186_2) | (show (Addr.add _ _).block ≠ _; rw [add_block]; exact hn186_2) | exact hn186_2) (.bool t183)).trans hx186_2; clear hn186_0; clear hn186_1; clear hn186_2; replace p186 := eq_true p186; replace q186 := eq_true q186))
     go_ret
     exact ⟨by first | rfl | (simp [bneNil]; done) | (simp [errW_none, errW_some] <;> rfl) | (simp [*, errW_none, errW_some] <;> rfl), by repeat (first | (with_reducible first | exact HB.out | apply below_alloc | apply pw_below_drewN | apply below_drew1 | refine below_set ?_ GE185.out) | exact HB.out)⟩
   ·rw [if_neg c4] at H
    exact absurd H (by simp)
  ·rw [if_neg c3] at H
   have c3b0 : ((t179.length : Int) == 2) = false := beq_eq_false_iff_ne.mpr c3
   have c3b1 : ((t179.length : Int) != 2) = true := bne_iff_ne.mpr c3
   obtain rfl := Option.some.inj H
   go_enter Tryd.func13, Tryd.ntmps13
   go_wp2_with (first | ((with_reducible refine gate_callee (f := 9) rfl ?_); refine goesL_ (some 4) rfl rfl Tryd.func9 (by kernel_rfl) rfl #[.string (⟨#[84, 111, 58, 32, 97, 13, 10, 98, 58, 32, 32, 99, 44, 13, 10, 32, 100, 13, 10, 13, 10, 120, 13, 10]⟩ : ByteArray)] rfl ml ?_; (with_reducible refine (head_Parse.calls k (⟨#[84, 111, 58, 32, 97, 13, 10, 98, 58, 32, 32, 99, 44, 13, 10, 32, 100, 13, 10, 13, 10, 120, 13, 10]⟩ : ByteArray) t179 t182 t183 t184 _ ?side1 A1.out).mono ?_); (case side1 => exact Glob.below HG.out bl); rintro e w25 ⟨v180, rfl, ho0, hb⟩; refine ⟨_, rfl, ?_⟩; have n0_ := Aside0.mk (Kd.R_lower ho0 (below_size bl)); have n1_ := Aside0.mk (below_step bl hb); clear HB; have HO181 := n0_; have HB := n1_; clear n0_ n1_; (try clear hb); (try clear hb2); (try clear hk); (try clear hi); (try clear ho0)) | ((with_reducible refine gate_dst (N := 1) rfl ?_); (try (refine gate_guard (by rfl) ?_; dsimp only)); refine box_event ?hg (N := 1) ?hd (cs := #[.slice none 0 0, .string (⟨#[]⟩ : ByteArray), .bool false]) (t := 24) ?hr ?_; (case hd => rfl); (case hg => rfl); (case hr => first | (go_simp; done) | (go_simp; rfl)); intro gb185 hg w26 hbox hb; have n0_ := Aside0.mk (Kd.R_below (kr HO181.out) hb); have n1_ := Aside0.mk (below_step bl hb); have n2_ := Aside0.mk (hbox); have n3_ := Aside0.mk ((by rw [hg]; exact (below_size bl) : w.heap.size ≤ gb185)); have n4_ := Aside0.mk ((by rw [hg]; exact (below_size bl) : w.heap.size ≤ gb185)); clear HO181; clear HB; have HO181 := n0_; have HB := n1_; have BK185 := n2_; have GW185 := n3_; have GE185 := n4_; clear n0_ n1_ n2_ n3_ n4_; clear hb hbox hg; obtain ⟨Ao27, co27, eo27⟩ := Kd.R_slice HO181.out; subst eo27; have hcz28_0 : w26.cell? ⟨gb185, 0, none⟩ = some (.slice none 0 0) := (blk_cell BK185.out 0).trans rfl; have hcz28_1 : w26.cell? ⟨gb185, 1, none⟩ = some (.string (⟨#[]⟩ : ByteArray)) := (blk_cell BK185.out 1).trans rfl; have hcz28_2 : w26.cell? ⟨gb185, 2, none⟩ = some (.bool false) := (blk_cell BK185.out 2).trans rfl; have hfz28_0 := blk_frozen BK185.out 0; have hfz28_1 := blk_frozen BK185.out 1; have hfz28_2 := blk_frozen BK185.out 2))
   go_ret
   exact ⟨by first | rfl | (simp [bneNil]; done) | (simp [errW_none, errW_some] <;> rfl) | (simp [*, errW_none, errW_some] <;> rfl), by repeat (first | (with_reducible first | exact HB.out | apply below_alloc | apply pw_below_drewN | apply below_drew1 | refine below_set ?_ GE185.out) | exact HB.out)⟩
 ·rw [if_neg c2] at H
  have c2b0 : (t184 == 0) = false := beq_eq_false_iff_ne.mpr c2
  have c2b1 : (t184 != 0) = true := bne_iff_ne.mpr c2
  obtain rfl := Option.some.inj H
  go_enter Tryd.func13, Tryd.ntmps13
  go_wp2_with (first | ((with_reducible refine gate_callee (f := 9) rfl ?_); refine goesL_ (some 4) rfl rfl Tryd.func9 (by kernel_rfl) rfl #[.string (⟨#[84, 111, 58, 32, 97, 13, 10, 98, 58, 32, 32, 99, 44, 13, 10, 32, 100, 13, 10, 13, 10, 120, 13, 10]⟩ : ByteArray)] rfl ml ?_; (with_reducible refine (head_Parse.calls k (⟨#[84, 111, 58, 32, 97, 13, 10, 98, 58, 32, 32, 99, 44, 13, 10, 32, 100, 13, 10, 13, 10, 120, 13, 10]⟩ : ByteArray) t179 t182 t183 t184 _ ?side1 A1.out).mono ?_); (case side1 => exact Glob.below HG.out bl); rintro e w29 ⟨v180, rfl, ho0, hb⟩; refine ⟨_, rfl, ?_⟩; have n0_ := Aside0.mk (Kd.R_lower ho0 (below_size bl)); have n1_ := Aside0.mk (below_step bl hb); clear HB; have HO181 := n0_; have HB := n1_; clear n0_ n1_; (try clear hb); (try clear hb2); (try clear hk); (try clear hi); (try clear ho0)) | ((with_reducible refine gate_dst (N := 1) rfl ?_); (try (refine gate_guard (by rfl) ?_; dsimp only)); refine box_event ?hg (N := 1) ?hd (cs := #[.slice none 0 0, .string (⟨#[]⟩ : ByteArray), .bool false]) (t := 24) ?hr ?_; (case hd => rfl); (case hg => rfl); (case hr => first | (go_simp; done) | (go_simp; rfl)); intro gb185 hg w30 hbox hb; have n0_ := Aside0.mk (Kd.R_below (kr HO181.out) hb); have n1_ := Aside0.mk (below_step bl hb); have n2_ := Aside0.mk (hbox); have n3_ := Aside0.mk ((by rw [hg]; exact (below_size bl) : w.heap.size ≤ gb185)); have n4_ := Aside0.mk ((by rw [hg]; exact (below_size bl) : w.heap.size ≤ gb185)); clear HO181; clear HB; have HO181 := n0_; have HB := n1_; have BK185 := n2_; have GW185 := n3_; have GE185 := n4_; clear n0_ n1_ n2_ n3_ n4_; clear hb hbox hg; obtain ⟨Ao31, co31, eo31⟩ := Kd.R_slice HO181.out; subst eo31; have hcz32_0 : w30.cell? ⟨gb185, 0, none⟩ = some (.slice none 0 0) := (blk_cell BK185.out 0).trans rfl; have hcz32_1 : w30.cell? ⟨gb185, 1, none⟩ = some (.string (⟨#[]⟩ : ByteArray)) := (blk_cell BK185.out 1).trans rfl; have hcz32_2 : w30.cell? ⟨gb185, 2, none⟩ = some (.bool false) := (blk_cell BK185.out 2).trans rfl; have hfz32_0 := blk_frozen BK185.out 0; have hfz32_1 := blk_frozen BK185.out 1; have hfz32_2 := blk_frozen BK185.out 2))
  go_ret
  exact ⟨by first | rfl | (simp [bneNil]; done) | (simp [errW_none, errW_some] <;> rfl) | (simp [*, errW_none, errW_some] <;> rfl), by repeat (first | (with_reducible first | exact HB.out | apply below_alloc | apply pw_below_drewN | apply below_drew1 | refine below_set ?_ GE185.out) | exact HB.out)⟩

/-! ### head_fold: function 48 -/
mutual
def head_fold.l0 : Nat → ByteArray → Int → Int → Option (Int)
 | 0, _, _, _ => none
 | k + 1, x0, x5, x6 => if x6 < (x0.size : Int) then (if 0 ≤ x6 then (if (bt x0 x6) = 32 then (if 0 ≤ (wrap64 (x6 - 1)) then (if (wrap64 (x6 - 1)) < (x0.size : Int) then (if (bt x0 (wrap64 (x6 - 1))) = 44 then (if x5 ≥ 0 then (head_fold.j1 k x0 x5 x6 (decide (x6 > 78))) else (head_fold.j1 k x0 x5 x6 false)) else (head_fold.j1 k x0 x5 x6 true)) else (none)) else (none)) else (head_fold.j1 k x0 x5 x6 true)) else (none)) else (some x5)
def head_fold.j1 : Nat → ByteArray → Int → Int → Bool → Option (Int)
 | 0, _, _, _, _ => none
 | k + 1, x0, x5, x6, x35 => if x35 = true then (head_fold.l0 k x0 x5 (wrap64 (x6 + 1))) else (if x6 > 78 then (some x6) else (head_fold.l0 k x0 x6 (wrap64 (x6 + 1))))
end
def head_fold.f (k : Nat) (a0 : ByteArray) (a1 : Int) : Option (Int) := if (a0.size : Int) ≤ 78 then (some (-1)) else (head_fold.l0 k a0 (-1) a1)
theorem head_fold.mono_l : ∀ k, (∀ y0 y1 y2, LeO (head_fold.l0 k y0 y1 y2) (head_fold.l0 (k + 1) y0 y1 y2)) ∧ (∀ y0 y1 y2 y3, LeO (head_fold.j1 k y0 y1 y2 y3) (head_fold.j1 (k + 1) y0 y1 y2 y3))
 | 0 => ⟨fun _ _ _ r h => by simp [head_fold.l0] at h, fun _ _ _ _ r h => by simp [head_fold.j1] at h⟩
 | k + 1 => by
  obtain ⟨ih0, ih1⟩ := head_fold.mono_l k
  refine ⟨?_, ?_⟩
  ·intro y0 y1 y2
   unfold head_fold.l0
   repeat' first
   | (with_reducible exact ih0 _ _ _)
   | (with_reducible exact ih1 _ _ _ _)
   | (with_reducible exact LeO.refl _)
   | (with_reducible exact LeO.none _)
   | (with_reducible refine LeO.ite ?_ ?_)
   | (with_reducible refine LeO.bind ?_ (fun _ => ?_))
   | exact ih0 _ _ _
   | exact ih1 _ _ _ _
   | exact LeO.none _
   | refine LeO.ite ?_ ?_
   | refine LeO.bind ?_ (fun _ => ?_)
  ·intro y0 y1 y2 y3
   unfold head_fold.j1
   repeat' first
   | (with_reducible exact ih0 _ _ _)
   | (with_reducible exact ih1 _ _ _ _)
   | (with_reducible exact LeO.refl _)
   | (with_reducible exact LeO.none _)
   | (with_reducible refine LeO.ite ?_ ?_)
   | (with_reducible refine LeO.bind ?_ (fun _ => ?_))
   | exact ih0 _ _ _
   | exact ih1 _ _ _ _
   | exact LeO.none _
   | refine LeO.ite ?_ ?_
   | refine LeO.bind ?_ (fun _ => ?_)
theorem head_fold.mono : ∀ a0 a1 k, LeO (head_fold.f k a0 a1) (head_fold.f (k + 1) a0 a1) := by
 intro a0 a1 k
 obtain ⟨ih0, ih1⟩ := head_fold.mono_l k
 unfold head_fold.f
 repeat' first
   | (with_reducible exact ih0 _ _ _)
   | (with_reducible exact ih1 _ _ _ _)
   | (with_reducible exact LeO.refl _)
   | (with_reducible exact LeO.none _)
   | (with_reducible refine LeO.ite ?_ ?_)
   | (with_reducible refine LeO.bind ?_ (fun _ => ?_))
   | exact ih0 _ _ _
   | exact ih1 _ _ _ _
   | exact LeO.none _
   | refine LeO.ite ?_ ?_
   | refine LeO.bind ?_ (fun _ => ?_)
set_option maxHeartbeats 8000000 in
set_option maxRecDepth 100000 in
theorem head_fold.calls (k : Nat) (a0 : ByteArray) (a1 : Int) (r : Int) (w : World) (h : head_fold.f k a0 a1 = some r) :
  Calls Tryd.prog 48 #[.string a0, .int .i64 a1] w fun e w' => e = .returned (.int .i64 r) ∧ Drawn0 w w' := by
 have H : (if (a0.size : Int) ≤ 78 then (some (-1)) else (head_fold.l0 k a0 (-1) a1)) = some r := h
 clear h
 by_cases c3 : (a0.size : Int) ≤ 78
 ·rw [if_pos c3] at H
  have c3b0 : decide ((a0.size : Int) ≤ 78) = true := decide_eq_true c3
  have c3b1 : decide (a0.size ≤ 78) = true := decide_eq_true (by omega)
  clear c3
  obtain rfl := Option.some.inj H
  go_enter Tryd.func48, Tryd.ntmps48
  go_wp2
  go_ret
  exact ⟨by first | rfl | (simp [bneNil]; done) | (simp; done) | (simp [*]; done), by repeat (first | exact Drawn0.refl _ | apply Drawn0.step)⟩
 ·rw [if_neg c3] at H
  have c3b0 : decide ((a0.size : Int) ≤ 78) = false := decide_eq_false c3
  have c3b1 : decide (a0.size ≤ 78) = false := decide_eq_false (by omega)
  clear c3
  have H' := Aside0.mk H
  clear H
  go_enter Tryd.func48, Tryd.ntmps48
  go_wp2
  go_loopg [5, 6] k (fun kq v5 v6 w' => ∃ (x5_1 : Int) (x6_1 : Int), v5 = .int .i64 x5_1 ∧ v6 = .int .i64 x6_1 ∧ Aside0 (head_fold.l0 kq a0 x5_1 x6_1 = some r) ∧ Aside0 (kq ≤ k) ∧ Drawn0 w w')
  case atStart => exact ⟨((-1)), (a1), (by first | rfl | (simp; done) | (simp [*]; done)), (by first | rfl | (simp; done) | (simp [*]; done)), H', ⟨Nat.le_refl _⟩, by repeat (first | exact Drawn0.refl _ | apply Drawn0.step)⟩
  case round =>
   clear H'
   try clear p2
   try clear c3
   try clear c3b0
   try clear c3b1
   obtain ⟨x5_1, x6_1, rfl, rfl, HA, HK1, ⟨m1, rfl⟩⟩ := hrel
   cases gk with
   | zero => exact absurd HA.out (by simp [head_fold.l0])
   | succ k1 =>
    have H := HA.out
    clear HA
    simp only [head_fold.l0] at H
    by_cases c4 : x6_1 < (a0.size : Int)
    ·rw [if_pos c4] at H
     have c4b0 : decide (x6_1 < (a0.size : Int)) = true := decide_eq_true c4
     clear c4
     have HC5 := Aside0.mk H
     clear H
     go_upto_region 7 with (fail)
     go_cut [35] (fun v35 wc => ∃ (kq : Nat) (x35_4 : Bool), v35 = .bool x35_4 ∧ Aside0 (head_fold.j1 kq a0 x5_1 x6_1 x35_4 = some r) ∧ Aside0 (kq ≤ k1) ∧ Drawn0 w wc)
     case first =>
      have H := HC5.out
      clear HC5
      by_cases c6 : 0 ≤ x6_1
      ·rw [if_pos c6] at H
       have c6b0 : decide (0 ≤ x6_1) = true := decide_eq_true c6
       clear c6
       (first | rw [c6b0] | (simp only [i64_w, i32_w]; rw [c6b0]) | skip)
       by_cases c8 : (bt a0 x6_1) = 32
       ·rw [if_pos c8] at H
        have c8b0 : ((bt a0 x6_1) == 32) = true := beq_iff_eq.mpr c8
        have c8b1 : ((bt a0 x6_1) != 32) = false := bne_eq_false_iff_eq.mpr c8
        clear c8
        obtain ⟨ji9, hji9⟩ : ∃ j_ : Int, (wrap64 (x6_1 - 1)) = j_ := ⟨_, rfl⟩
        replace H : (if 0 ≤ (ji9) then (if (ji9) < (a0.size : Int) then (if (bt a0 (ji9)) = 44 then (if x5_1 ≥ 0 then (head_fold.j1 k1 a0 x5_1 x6_1 (decide (x6_1 > 78))) else (head_fold.j1 k1 a0 x5_1 x6_1 false)) else (head_fold.j1 k1 a0 x5_1 x6_1 true)) else (none)) else (none)) = some r := by first | (rw [hji9] at H; exact H) | (simp only [hji9] at H ⊢; exact H)
        have hji9w : (IntKind.i64.wrap (x6_1 - 1)) = ji9 := (i64_w _).trans hji9
        by_cases c10 : 0 ≤ (ji9)
        ·rw [if_pos c10] at H
         have c10b0 : decide (0 ≤ (ji9)) = true := decide_eq_true c10
         clear c10
         by_cases c11 : (ji9) < (a0.size : Int)
         ·rw [if_pos c11] at H
          have c11b0 : decide ((ji9) < (a0.size : Int)) = true := decide_eq_true c11
          clear c11
          by_cases c13 : (bt a0 (ji9)) = 44
          ·rw [if_pos c13] at H
           have c13b0 : ((bt a0 (ji9)) == 44) = true := beq_iff_eq.mpr c13
           have c13b1 : ((bt a0 (ji9)) != 44) = false := bne_eq_false_iff_eq.mpr c13
           clear c13
           by_cases c14 : x5_1 ≥ 0
           ·rw [if_pos c14] at H
            have c14b0 : decide (0 ≤ x5_1) = true := decide_eq_true c14
            clear c14
            have H' := Aside0.mk H
            clear H
            have p7 : 0 ≤ (x6_1 : Int) := od
            have q7 : x6_1 < (a0.size : Int) := od
            have hx7 := bt_at a0 x6_1
            replace p7 := eq_true p7
            replace q7 := eq_true q7
            have p12 : 0 ≤ ((ji9) : Int) := od
            have q12 : (ji9) < (a0.size : Int) := od
            have hx12 := bt_at a0 (ji9)
            replace p12 := eq_true p12
            replace q12 := eq_true q12
            go_wp2
            go_meet
            case rel => exact ⟨_, (decide (x6_1 > 78)), (by first | rfl | (simp; done) | (simp [*]; done)), H', ⟨by have := HK1.out; first | omega | exact Nat.le_refl _⟩, by repeat (first | exact Drawn0.refl _ | apply Drawn0.step)⟩
           ·rw [if_neg c14] at H
            have c14b0 : decide (0 ≤ x5_1) = false := decide_eq_false c14
            clear c14
            have H' := Aside0.mk H
            clear H
            have p7 : 0 ≤ (x6_1 : Int) := od
            have q7 : x6_1 < (a0.size : Int) := od
            have hx7 := bt_at a0 x6_1
            replace p7 := eq_true p7
            replace q7 := eq_true q7
            have p12 : 0 ≤ ((ji9) : Int) := od
            have q12 : (ji9) < (a0.size : Int) := od
            have hx12 := bt_at a0 (ji9)
            replace p12 := eq_true p12
            replace q12 := eq_true q12
            go_wp2
            go_meet
            case rel => exact ⟨_, (false), (by first | rfl | (simp; done) | (simp [*]; done)), H', ⟨by have := HK1.out; first | omega | exact Nat.le_refl _⟩, by repeat (first | exact Drawn0.refl _ | apply Drawn0.step)⟩
          ·rw [if_neg c13] at H
           have c13b0 : ((bt a0 (ji9)) == 44) = false := beq_eq_false_iff_ne.mpr c13
           have c13b1 : ((bt a0 (ji9)) != 44) = true := bne_iff_ne.mpr c13
           have H' := Aside0.mk H
           clear H
           have p7 : 0 ≤ (x6_1 : Int) := od
           have q7 : x6_1 < (a0.size : Int) := od
           have hx7 := bt_at a0 x6_1
           replace p7 := eq_true p7
           replace q7 := eq_true q7
           have p12 : 0 ≤ ((ji9) : Int) := od
           have q12 : (ji9) < (a0.size : Int) := od
           have hx12 := bt_at a0 (ji9)
           replace p12 := eq_true p12
           replace q12 := eq_true q12
           go_wp2
           go_meet
           case rel => exact ⟨_, (true), (by first | rfl | (simp; done) | (simp [*]; done)), H', ⟨by have := HK1.out; first | omega | exact Nat.le_refl _⟩, by repeat (first | exact Drawn0.refl _ | apply Drawn0.step)⟩
         ·rw [if_neg c11] at H
          exact absurd H (by simp)
        ·rw [if_neg c10] at H
         exact absurd H (by simp)
       ·rw [if_neg c8] at H
        have c8b0 : ((bt a0 x6_1) == 32) = false := beq_eq_false_iff_ne.mpr c8
        have c8b1 : ((bt a0 x6_1) != 32) = true := bne_iff_ne.mpr c8
        have H' := Aside0.mk H
        clear H
        have p7 : 0 ≤ (x6_1 : Int) := od
        have q7 : x6_1 < (a0.size : Int) := od
        have hx7 := bt_at a0 x6_1
        replace p7 := eq_true p7
        replace q7 := eq_true q7
        go_wp2
        go_meet
        case rel => exact ⟨_, (true), (by first | rfl | (simp; done) | (simp [*]; done)), H', ⟨by have := HK1.out; first | omega | exact Nat.le_refl _⟩, by repeat (first | exact Drawn0.refl _ | apply Drawn0.step)⟩
      ·rw [if_neg c6] at H
       exact absurd H (by simp)
     case rest =>
      clear HC5
      try clear c1
      try clear p1
      try clear q1
      try clear hx1
      try clear p2
      try clear c3
      try clear c3b0
      try clear c3b1
      try clear c4
      try clear c4b0
      try clear c6
      try clear c6b0
      try clear p6
      try clear p7
      try clear q7
      try clear hx7
      try clear c8
      try clear c8b0
      try clear c8b1
      try clear c10
      try clear c10b0
      try clear c11
      try clear c11b0
      try clear p12
      try clear q12
      try clear hx12
      try clear c13
      try clear c13b0
      try clear c13b1
      try clear c14
      try clear c14b0
      try clear p12
      try clear p2
      try clear p7
      try clear q12
      try clear q7
      obtain ⟨kq, x35_4, rfl, HA, HJ4, ⟨mc4, rfl⟩⟩ := hcut
      cases kq with
      | zero => exact absurd HA.out (by simp [head_fold.j1])
      | succ kj4 =>
       have H := HA.out
       clear HA
       simp only [head_fold.j1] at H
       by_cases c15 : x35_4 = true
       ·subst c15
        have H1 : (head_fold.l0 kj4 a0 x5_1 (wrap64 (x6_1 + 1))) = some r := by rw [if_pos rfl] at H; exact H
        clear H
        have H := H1
        clear H1
        have H' := Aside0.mk H
        clear H
        go_wp2
        go_roundg kj4
        case measure => have := HK1.out; have := HJ4.out; omega
        case rel => exact ⟨(x5_1), (wrap64 (x6_1 + 1)), (by first | rfl | (simp; done) | (simp [*]; done)), (by first | rfl | (simp; done) | (simp [*]; done)), H', ⟨by have := HK1.out; have := HJ4.out; omega⟩, by repeat (first | exact Drawn0.refl _ | apply Drawn0.step)⟩
       ·replace c15 := Bool.eq_false_iff.mpr c15
        subst c15
        have H1 : (if x6_1 > 78 then (some x6_1) else (head_fold.l0 kj4 a0 x6_1 (wrap64 (x6_1 + 1)))) = some r := by rw [if_neg (show ¬ (false = true) by decide)] at H; exact H
        clear H
        have H := H1
        clear H1
        by_cases c16 : x6_1 > 78
        ·rw [if_pos c16] at H
         have c16b0 : decide (78 < x6_1) = true := decide_eq_true c16
         clear c16
         obtain rfl := Option.some.inj H
         go_wp2
         go_ret
         exact ⟨by first | rfl | (simp [bneNil]; done) | (simp; done) | (simp [*]; done), by repeat (first | exact Drawn0.refl _ | apply Drawn0.step)⟩
        ·rw [if_neg c16] at H
         have c16b0 : decide (78 < x6_1) = false := decide_eq_false c16
         clear c16
         have H' := Aside0.mk H
         clear H
         go_wp2
         go_roundg kj4
         case measure => have := HK1.out; have := HJ4.out; omega
         case rel => exact ⟨(x6_1), (wrap64 (x6_1 + 1)), (by first | rfl | (simp; done) | (simp [*]; done)), (by first | rfl | (simp; done) | (simp [*]; done)), H', ⟨by have := HK1.out; have := HJ4.out; omega⟩, by repeat (first | exact Drawn0.refl _ | apply Drawn0.step)⟩
    ·rw [if_neg c4] at H
     have c4b0 : decide (x6_1 < (a0.size : Int)) = false := decide_eq_false c4
     clear c4
     obtain rfl := Option.some.inj H
     go_wp2
     go_ret
     exact ⟨by first | rfl | (simp [bneNil]; done) | (simp; done) | (simp [*]; done), by repeat (first | exact Drawn0.refl _ | apply Drawn0.step)⟩

/-! ### head_Lay: function 14 -/
mutual
def head_Lay.j0 : Nat → ByteArray → ByteArray → Bool → Option (ByteArray × ByteArray × ByteArray × Int)
 | 0, _, _, _ => none
 | k + 1, x0, x1, x19 => if x19 = true then (some ((⟨#[]⟩ : ByteArray), (⟨#[]⟩ : ByteArray), (⟨#[]⟩ : ByteArray), 5)) else (if x0.size + 2 ≤ 9223372036854775807 then (if (x0 ++ (⟨#[58, 32]⟩ : ByteArray)).size + x1.size ≤ 9223372036854775807 then ((head_fold.f k ((x0 ++ (⟨#[58, 32]⟩ : ByteArray)) ++ x1) (wrap64 ((x0.size : Int) + 3))).bind fun t191 => (head_Lay.l0 k ([] : List ByteArray) ((x0 ++ (⟨#[58, 32]⟩ : ByteArray)) ++ x1) t191)) else (none)) else (none))
def head_Lay.l0 : Nat → List ByteArray → ByteArray → Int → Option (ByteArray × ByteArray × ByteArray × Int)
 | 0, _, _, _ => none
 | k + 1, x6, x7, x9 => if x9 ≥ 0 then (if 0 ≤ x9 then (if x9 ≤ (x7.size : Int) then (if x6.length < 8796093022208 then ((head_fold.f k (x7.extract (x9 : Int).toNat x7.size) 2).bind fun t195 => (head_Lay.l0 k (x6 ++ [x7.extract 0 (x9 : Int).toNat]) (x7.extract (x9 : Int).toNat x7.size) t195)) else (none)) else (none)) else (none)) else (if x6.length < 8796093022208 then ((head_field.f k (x6 ++ [x7])).bind fun bt199 => (some (bt199.1, bt199.2.1, bt199.2.2.1, 0))) else (none))
end
def head_Lay.f (k : Nat) (a0 : ByteArray) (a1 : ByteArray) : Option (ByteArray × ByteArray × ByteArray × Int) := (head_named.f k a0).bind fun t189 => (if t189 = true then ((head_byteful.f k a1).bind fun t190 => (head_Lay.j0 k a0 a1 (!t190))) else (head_Lay.j0 k a0 a1 true))
theorem head_Lay.mono_l : ∀ k, (∀ y0 y1 y2, LeO (head_Lay.j0 k y0 y1 y2) (head_Lay.j0 (k + 1) y0 y1 y2)) ∧ (∀ y0 y1 y2, LeO (head_Lay.l0 k y0 y1 y2) (head_Lay.l0 (k + 1) y0 y1 y2))
 | 0 => ⟨fun _ _ _ r h => by simp [head_Lay.j0] at h, fun _ _ _ r h => by simp [head_Lay.l0] at h⟩
 | k + 1 => by
  obtain ⟨ih0, ih1⟩ := head_Lay.mono_l k
  refine ⟨?_, ?_⟩
  ·intro y0 y1 y2
   unfold head_Lay.j0
   repeat' first
   | (with_reducible exact ih0 _ _ _)
   | (with_reducible exact ih1 _ _ _)
   | (with_reducible exact head_byteful.mono _ _)
   | (with_reducible exact head_field.mono _ _)
   | (with_reducible exact head_fold.mono _ _ _)
   | (with_reducible exact head_named.mono _ _)
   | (with_reducible exact LeO.refl _)
   | (with_reducible exact LeO.none _)
   | (with_reducible refine LeO.ite ?_ ?_)
   | (with_reducible refine LeO.bind ?_ (fun _ => ?_))
   | exact ih0 _ _ _
   | exact ih1 _ _ _
   | exact head_byteful.mono _ _
   | exact head_field.mono _ _
   | exact head_fold.mono _ _ _
   | exact head_named.mono _ _
   | exact LeO.none _
   | refine LeO.ite ?_ ?_
   | refine LeO.bind ?_ (fun _ => ?_)
  ·intro y0 y1 y2
   unfold head_Lay.l0
   repeat' first
   | (with_reducible exact ih0 _ _ _)
   | (with_reducible exact ih1 _ _ _)
   | (with_reducible exact head_byteful.mono _ _)
   | (with_reducible exact head_field.mono _ _)
   | (with_reducible exact head_fold.mono _ _ _)
   | (with_reducible exact head_named.mono _ _)
   | (with_reducible exact LeO.refl _)
   | (with_reducible exact LeO.none _)
   | (with_reducible refine LeO.ite ?_ ?_)
   | (with_reducible refine LeO.bind ?_ (fun _ => ?_))
   | exact ih0 _ _ _
   | exact ih1 _ _ _
   | exact head_byteful.mono _ _
   | exact head_field.mono _ _
   | exact head_fold.mono _ _ _
   | exact head_named.mono _ _
   | exact LeO.none _
   | refine LeO.ite ?_ ?_
   | refine LeO.bind ?_ (fun _ => ?_)
theorem head_Lay.mono : ∀ a0 a1 k, LeO (head_Lay.f k a0 a1) (head_Lay.f (k + 1) a0 a1) := by
 intro a0 a1 k
 obtain ⟨ih0, ih1⟩ := head_Lay.mono_l k
 unfold head_Lay.f
 repeat' first
   | (with_reducible exact ih0 _ _ _)
   | (with_reducible exact ih1 _ _ _)
   | (with_reducible exact head_byteful.mono _ _)
   | (with_reducible exact head_field.mono _ _)
   | (with_reducible exact head_fold.mono _ _ _)
   | (with_reducible exact head_named.mono _ _)
   | (with_reducible exact LeO.refl _)
   | (with_reducible exact LeO.none _)
   | (with_reducible refine LeO.ite ?_ ?_)
   | (with_reducible refine LeO.bind ?_ (fun _ => ?_))
   | exact ih0 _ _ _
   | exact ih1 _ _ _
   | exact head_byteful.mono _ _
   | exact head_field.mono _ _
   | exact head_fold.mono _ _ _
   | exact head_named.mono _ _
   | exact LeO.none _
   | refine LeO.ite ?_ ?_
   | refine LeO.bind ?_ (fun _ => ?_)
set_option maxHeartbeats 8000000 in
set_option maxRecDepth 100000 in
theorem head_Lay.calls (k : Nat) (a0 : ByteArray) (a1 : ByteArray) (r1 : ByteArray) (r2 : ByteArray) (r3 : ByteArray) (r4 : Int) (w : World) (hG : Glob w) (h : head_Lay.f k a0 a1 = some (r1, r2, r3, r4)) :
  Calls Tryd.prog 14 #[.string a0, .string a1] w fun e w' => e = .returned (.tuple #[.agg #[.string r1, .string r2, .string r3], .int .i64 r4]) ∧ Below w.heap.size w w' := by
 have hu41 := Tryd.underlying41
 have HB := Aside0.mk (Below.refl w.heap.size w)
 have HG := Aside0.mk hG
 clear hG
 have H : ((head_named.f k a0).bind fun t189 => (if t189 = true then ((head_byteful.f k a1).bind fun t190 => (head_Lay.j0 k a0 a1 (!t190))) else (head_Lay.j0 k a0 a1 true))) = some (r1, r2, r3, r4) := h
 clear h
 have HC3 := Aside0.mk H
 clear H
 go_enter Tryd.func14, Tryd.ntmps14
 go_upto_region 1 with (first | ((with_reducible refine gate_dst (N := 4) rfl ?_); refine box_event ?hg (N := 4) ?hd (cs := #[.string (⟨#[]⟩ : ByteArray), .string (⟨#[]⟩ : ByteArray), .string (⟨#[]⟩ : ByteArray)]) (t := 41) ?hr ?_; (case hd => rfl); (case hg => rfl); (case hr => first | (go_simp; done) | (go_simp; rfl)); intro gb188 hg w4 hbox hb; have n0_ := Aside0.mk (below_step bl hb); have n1_ := Aside0.mk (hbox); have n2_ := Aside0.mk ((by rw [hg]; exact (below_size bl) : w.heap.size ≤ gb188)); have n3_ := Aside0.mk ((by rw [hg]; exact (below_size bl) : w.heap.size ≤ gb188)); clear HB; have HB := n0_; have BK188 := n1_; have GW188 := n2_; have GE188 := n3_; clear n0_ n1_ n2_ n3_; clear hb hbox hg))
 (try simp only [Act.put, List.setIfInBounds_toArray, List.set_cons_zero, List.set_cons_succ])
 go_cut [19] (fun v19 wc => ∃ (kq : Nat) (x19_2 : Bool), v19 = .bool x19_2 ∧ Aside0 (head_Lay.j0 kq a0 a1 x19_2 = some (r1, r2, r3, r4)) ∧ Aside0 (kq ≤ k) ∧ Aside0 (wc.heap[gb188]? = some (.cells #[.string (⟨#[]⟩ : ByteArray), .string (⟨#[]⟩ : ByteArray), .string (⟨#[]⟩ : ByteArray)] 41 (0, 0))) ∧ Aside0 (Below w.heap.size w wc))
 case first =>
  have H := HC3.out
  clear HC3
  replace H := Option.bind_eq_some_iff.mp H
  obtain ⟨t189, A50, H⟩ := H
  replace H : (if t189 = true then ((head_byteful.f k a1).bind fun t190 => (head_Lay.j0 k a0 a1 (!t190))) else (head_Lay.j0 k a0 a1 true)) = some (r1, r2, r3, r4) := H
  have A5 := Aside0.mk A50
  clear A50
  by_cases c6 : t189 = true
  ·subst c6
   have H1 : ((head_byteful.f k a1).bind fun t190 => (head_Lay.j0 k a0 a1 (!t190))) = some (r1, r2, r3, r4) := by rw [if_pos rfl] at H; exact H
   clear H
   have H := H1
   clear H1
   replace H := Option.bind_eq_some_iff.mp H
   obtain ⟨t190, A70, H⟩ := H
   replace H : (head_Lay.j0 k a0 a1 (!t190)) = some (r1, r2, r3, r4) := H
   have A7 := Aside0.mk A70
   clear A70
   have H' := Aside0.mk H
   clear H
   go_wp2_with (first | ((with_reducible refine gate_callee (f := 46) rfl ?_); refine goesL_ (some 13) rfl rfl Tryd.func46 (by kernel_rfl) rfl #[.string a0] rfl ml ?_; (with_reducible refine (head_named.calls k a0 true _ A5.out).mono ?_); rintro e w' ⟨rfl, ⟨nd, rfl⟩⟩; refine ⟨_, rfl, ?_⟩) | (go_at_call 47; (with_reducible refine (head_byteful.calls k a1 t190 _ A7.out).mono ?_); rintro e w' ⟨rfl, ⟨nd, rfl⟩⟩))
   go_meet
   case rel => exact ⟨_, (!t190), (by first | rfl | (simp; done) | (simp [*]; done)), H', ⟨by first | omega | exact Nat.le_refl _⟩, ⟨by (with_reducible repeat (first | refine blk_drewN ?_ _ | refine blk_drew ?_ | refine blk_alloc ?_ _)); exact BK188.out⟩, ⟨by repeat (first | (with_reducible first | exact HB.out | apply below_alloc | apply pw_below_drewN | apply below_drew1 | refine below_set ?_ GE188.out) | exact HB.out)⟩⟩
  ·replace c6 := Bool.eq_false_iff.mpr c6
   subst c6
   have H1 : (head_Lay.j0 k a0 a1 true) = some (r1, r2, r3, r4) := by rw [if_neg (show ¬ (false = true) by decide)] at H; exact H
   clear H
   have H := H1
   clear H1
   have H' := Aside0.mk H
   clear H
   go_wp2_with (first | ((with_reducible refine gate_callee (f := 46) rfl ?_); refine goesL_ (some 13) rfl rfl Tryd.func46 (by kernel_rfl) rfl #[.string a0] rfl ml ?_; (with_reducible refine (head_named.calls k a0 false _ A5.out).mono ?_); rintro e w' ⟨rfl, ⟨nd, rfl⟩⟩; refine ⟨_, rfl, ?_⟩))
   go_meet
   case rel => exact ⟨_, (true), (by first | rfl | (simp; done) | (simp [*]; done)), H', ⟨by first | omega | exact Nat.le_refl _⟩, ⟨by (with_reducible repeat (first | refine blk_drewN ?_ _ | refine blk_drew ?_ | refine blk_alloc ?_ _)); exact BK188.out⟩, ⟨by repeat (first | (with_reducible first | exact HB.out | apply below_alloc | apply pw_below_drewN | apply below_drew1 | refine below_set ?_ GE188.out) | exact HB.out)⟩⟩
 case rest =>
  clear HC3
  try clear c1
  try clear p2
  try clear c4
  try clear c6
  obtain ⟨kq, x19_2, rfl, HA, HJ2, BK188, HB⟩ := hcut
  cases kq with
  | zero => exact absurd HA.out (by simp [head_Lay.j0])
  | succ kj2 =>
   have H := HA.out
   clear HA
   simp only [head_Lay.j0] at H
   by_cases c8 : x19_2 = true
   ·subst c8
    have H1 : (some ((⟨#[]⟩ : ByteArray), (⟨#[]⟩ : ByteArray), (⟨#[]⟩ : ByteArray), 5)) = some (r1, r2, r3, r4) := by rw [if_pos rfl] at H; exact H
    clear H
    have H := H1
    clear H1
    simp only [Option.some.injEq, Prod.mk.injEq] at H
    obtain ⟨rfl, rfl, rfl, rfl⟩ := H
    have hcz9_0 : wc.cell? ⟨gb188, 0, none⟩ = some (.string (⟨#[]⟩ : ByteArray)) := (blk_cell BK188.out 0).trans rfl
    have hcz9_1 : wc.cell? ⟨gb188, 1, none⟩ = some (.string (⟨#[]⟩ : ByteArray)) := (blk_cell BK188.out 1).trans rfl
    have hcz9_2 : wc.cell? ⟨gb188, 2, none⟩ = some (.string (⟨#[]⟩ : ByteArray)) := (blk_cell BK188.out 2).trans rfl
    have hfz9_0 := blk_frozen BK188.out 0
    have hfz9_1 := blk_frozen BK188.out 1
    have hfz9_2 := blk_frozen BK188.out 2
    go_wp2
    refine bodyPost_ret (results_ct rfl _ _ gb188 41 #[.string (⟨#[]⟩ : ByteArray), .string (⟨#[]⟩ : ByteArray), .string (⟨#[]⟩ : ByteArray)] (0, 0) _ rfl (by (with_reducible repeat (first | refine blk_drewN ?_ _ | refine blk_drew ?_ | refine blk_alloc ?_ _)); refine blk_put (cs := #[.string (⟨#[]⟩ : ByteArray), .string (⟨#[]⟩ : ByteArray), .string (⟨#[]⟩ : ByteArray)]) ?_ 2 _ rfl; (with_reducible repeat (first | refine blk_drewN ?_ _ | refine blk_drew ?_ | refine blk_alloc ?_ _)); refine blk_put (cs := #[.string (⟨#[]⟩ : ByteArray), .string (⟨#[]⟩ : ByteArray), .string (⟨#[]⟩ : ByteArray)]) ?_ 1 _ rfl; (with_reducible repeat (first | refine blk_drewN ?_ _ | refine blk_drew ?_ | refine blk_alloc ?_ _)); refine blk_put (cs := #[.string (⟨#[]⟩ : ByteArray), .string (⟨#[]⟩ : ByteArray), .string (⟨#[]⟩ : ByteArray)]) ?_ 0 _ rfl; (with_reducible repeat (first | refine blk_drewN ?_ _ | refine blk_drew ?_ | refine blk_alloc ?_ _)); exact BK188.out) Tryd.underlying41 rfl (by kernel_rfl)) rfl ?_
    exact ⟨by first | rfl | (simp [bneNil]; done) | (simp [errW_none, errW_some] <;> rfl) | (simp [*, errW_none, errW_some] <;> rfl), by repeat (first | (with_reducible first | exact HB.out | apply below_alloc | apply pw_below_drewN | apply below_drew1 | refine below_set ?_ GE188.out) | exact HB.out)⟩
   ·replace c8 := Bool.eq_false_iff.mpr c8
    subst c8
    have H1 : (if a0.size + 2 ≤ 9223372036854775807 then (if (a0 ++ (⟨#[58, 32]⟩ : ByteArray)).size + a1.size ≤ 9223372036854775807 then ((head_fold.f kj2 ((a0 ++ (⟨#[58, 32]⟩ : ByteArray)) ++ a1) (wrap64 ((a0.size : Int) + 3))).bind fun t191 => (head_Lay.l0 kj2 ([] : List ByteArray) ((a0 ++ (⟨#[58, 32]⟩ : ByteArray)) ++ a1) t191)) else (none)) else (none)) = some (r1, r2, r3, r4) := by rw [if_neg (show ¬ (false = true) by decide)] at H; exact H
    clear H
    have H := H1
    clear H1
    by_cases c10 : a0.size + 2 ≤ 9223372036854775807
    ·rw [if_pos c10] at H
     have c10b0 := eq_true c10
     have c10b1 : decide (a0.size + 2 ≤ 9223372036854775807) = true := decide_eq_true c10
     try have c10b2 : (9223372036854775807 < a0.size + 2) = False := eq_false (Nat.not_lt.2 c10)
     by_cases c11 : (a0 ++ (⟨#[58, 32]⟩ : ByteArray)).size + a1.size ≤ 9223372036854775807
     ·rw [if_pos c11] at H
      have c11b0 := eq_true c11
      have c11b1 : decide ((a0 ++ (⟨#[58, 32]⟩ : ByteArray)).size + a1.size ≤ 9223372036854775807) = true := decide_eq_true c11
      try have c11b2 : (9223372036854775807 < (a0 ++ (⟨#[58, 32]⟩ : ByteArray)).size + a1.size) = False := eq_false (Nat.not_lt.2 c11)
      try (have c11b2y := c11b2; rw [ByteArray.size_append] at c11b2y)
      try have c11b2z : (9223372036854775807 < a0.size + 2 + a1.size) = False := eq_false (fun h_ => by have g_ := c11; simp only [ByteArray.size_append, show (⟨#[58, 32]⟩ : ByteArray).size = 2 from rfl] at g_; omega)
      replace H := Option.bind_eq_some_iff.mp H
      obtain ⟨t191, A120, H⟩ := H
      replace H : (head_Lay.l0 kj2 ([] : List ByteArray) ((a0 ++ (⟨#[58, 32]⟩ : ByteArray)) ++ a1) t191) = some (r1, r2, r3, r4) := H
      have A12 := Aside0.mk A120
      clear A120
      have H' := Aside0.mk H
      clear H
      go_wp2_with (first | ((with_reducible refine gate_callee (f := 48) rfl ?_); refine goesL_ (some 30) rfl rfl Tryd.func48 (by kernel_rfl) rfl #[.string ((a0 ++ (⟨#[58, 32]⟩ : ByteArray)) ++ a1), .int .i64 (wrap64 ((a0.size : Int) + 3))] rfl ml ?_; (with_reducible refine (head_fold.calls kj2 ((a0 ++ (⟨#[58, 32]⟩ : ByteArray)) ++ a1) (wrap64 ((a0.size : Int) + 3)) t191 _ A12.out).mono ?_); rintro e w' ⟨rfl, ⟨nd, rfl⟩⟩; refine ⟨_, rfl, ?_⟩))
      go_loopg [6, 7, 9] kj2 (fun kq v6 v7 v9 w' => ∃ (x6_2 : List ByteArray) (x7_2 : ByteArray) (x9_2 : Int), v7 = .string x7_2 ∧ v9 = .int .i64 x9_2 ∧ Aside0 (head_Lay.l0 kq x6_2 x7_2 x9_2 = some (r1, r2, r3, r4)) ∧ Aside0 (kq ≤ kj2) ∧ Aside0 (Kd.R Kd.string 9 w' w.heap.size (fun _ => True) v6 x6_2) ∧ Aside0 (w'.heap[gb188]? = some (.cells #[.string (⟨#[]⟩ : ByteArray), .string (⟨#[]⟩ : ByteArray), .string (⟨#[]⟩ : ByteArray)] 41 (0, 0))) ∧ Aside0 (Below w.heap.size w w'))
      case atStart => exact ⟨(([] : List ByteArray)), ((a0 ++ (⟨#[58, 32]⟩ : ByteArray)) ++ a1), (t191), (by first | rfl | (simp; done) | (simp [*]; done)), (by first | rfl | (simp; done) | (simp [*]; done)), H', ⟨Nat.le_refl _⟩, ⟨by first | exact Kd.R_nil _ _ _ _ _ | exact Kd.N_nil _ _ _ _ _ | exact Kd.V_nil _ _ _ _ _ | exact Kd.Q_nil _ _ _ _ _ | exact Kd.S_nil _ _ _ _ _⟩, ⟨by (with_reducible repeat (first | refine blk_drewN ?_ _ | refine blk_drew ?_ | refine blk_alloc ?_ _)); exact BK188.out⟩, ⟨by repeat (first | (with_reducible first | exact HB.out | apply below_alloc | apply pw_below_drewN | apply below_drew1 | refine below_set ?_ GE188.out) | exact HB.out)⟩⟩
      case round =>
       clear H'
       try clear c1
       try clear p2
       try clear c4
       try clear c6
       try clear p6
       try clear c8
       try clear c10
       try clear c10b0
       try clear c10b1
       try clear c10b2
       try clear c11
       try clear c11b0
       try clear c11b1
       try clear c11b2
       try clear hcz9_0
       try clear hcz9_1
       try clear hcz9_2
       try clear hfz9_0
       try clear hfz9_1
       try clear hfz9_2
       try clear p2
       obtain ⟨x6_2, x7_2, x9_2, rfl, rfl, HA, HK2, HO_6, BK188, HB⟩ := hrel
       cases gk with
       | zero => exact absurd HA.out (by simp [head_Lay.l0])
       | succ k2 =>
        have H := HA.out
        clear HA
        simp only [head_Lay.l0] at H
        by_cases c13 : x9_2 ≥ 0
        ·rw [if_pos c13] at H
         have c13b0 : decide (0 ≤ x9_2) = true := decide_eq_true c13
         clear c13
         by_cases c14 : 0 ≤ x9_2
         ·rw [if_pos c14] at H
          have c14b0 := eq_true c14
          have c14b1 : decide (0 ≤ x9_2) = true := decide_eq_true c14
          clear c14
          by_cases c15 : x9_2 ≤ (x7_2.size : Int)
          ·rw [if_pos c15] at H
           have c15b0 := eq_true c15
           have c15b1 : decide (x9_2 ≤ (x7_2.size : Int)) = true := decide_eq_true c15
           clear c15
           by_cases c16 : x6_2.length < 8796093022208
           ·rw [if_pos c16] at H
            have LMc16 := Aside0.mk c16
            clear c16
            obtain ⟨y192, hy192⟩ : ∃ y_ : List ByteArray, y_ = (x6_2 ++ [x7_2.extract 0 (x9_2 : Int).toNat]) := ⟨_, rfl⟩
            replace H : ((head_fold.f k2 (x7_2.extract (x9_2 : Int).toNat x7_2.size) 2).bind fun t195 => (head_Lay.l0 k2 y192 (x7_2.extract (x9_2 : Int).toNat x7_2.size) t195)) = some (r1, r2, r3, r4) := by first | (rw [hy192]; with_reducible exact H) | (have H2_ := (Option.bind_some _ _).symm.trans H; rw [hy192]; with_reducible exact H2_) | (have H2_ := (Option.bind_some _ _).symm.trans H; with_reducible exact H2_) | with_reducible exact H | (rw [hy192]; exact H) | exact H
            have Ny192 := Aside0.mk hy192
            clear hy192
            have c17b0 := eq_true (od : 0 ≤ x9_2)
            have c18b0 := eq_true (od : x9_2 ≤ (x7_2.size : Int))
            replace H := Option.bind_eq_some_iff.mp H
            obtain ⟨t195, A190, H⟩ := H
            replace H : (head_Lay.l0 k2 y192 (x7_2.extract (x9_2 : Int).toNat x7_2.size) t195) = some (r1, r2, r3, r4) := H
            have A19 := Aside0.mk A190
            clear A190
            have H' := Aside0.mk H
            clear H
            go_wp2_with (first | ((with_reducible refine gate_builtin (b := .append) (xs := #[.tmp 36, .tmp 40]) rfl ?_); at_builtin; refine Kd.R_append Kd.string (w0 := w) w.heap.size rfl (.tmp 36) (.tmp 40) 37 9 (.string ⟨#[]⟩) 16 rfl Tryd.underlying37 info9 rfl (by decide) (by omega) u6 x6_2 (x7_2.extract 0 (x9_2 : Int).toNat) [.string (x7_2.extract 0 (x9_2 : Int).toNat)] (fun _ => True) (fun _ => False) rfl rfl ?aP (fun _ hk => hk.elim) ?aF ?aO ?aB ?aS ?aL ?_; (case aP => exact rfl); (case aB => exact bl); (case aF => exact (fun _ _ => trivial)); (case aO => exact (kr HO_6.out)); (case aS => exact (below_size bl)); (case aL => have := LMc16.out; omega); intro v193 w20 ho hb hg hat; rw [← Ny192.out] at ho; have n0_ := Aside0.mk (blk_grown (g := gb188) (o := .cells #[.string (⟨#[]⟩ : ByteArray), .string (⟨#[]⟩ : ByteArray), .string (⟨#[]⟩ : ByteArray)] 41 (0, 0)) (bk BK188.out) hg (Kd.R_ne HO_6.out BK188.out (by decide))); have n1_ := Aside0.mk (hb); have n2_ := Aside0.mk (ho); clear BK188; clear HB; clear HO_6; have BK188 := n0_; have HB := n1_; have HO194 := n2_; clear n0_ n1_ n2_; clear ho hb hg hat) | ((with_reducible refine gate_callee (f := 48) rfl ?_); refine goesL_ (some 35) rfl rfl Tryd.func48 (by kernel_rfl) rfl #[.string (x7_2.extract (x9_2 : Int).toNat x7_2.size), .int .i64 2] rfl ml ?_; (with_reducible refine (head_fold.calls k2 (x7_2.extract (x9_2 : Int).toNat x7_2.size) 2 t195 _ A19.out).mono ?_); rintro e w' ⟨rfl, ⟨nd, rfl⟩⟩; refine ⟨_, rfl, ?_⟩))
            go_roundg k2
            case measure => have := HJ2.out; have := HK2.out; omega
            case rel => exact ⟨(y192), (x7_2.extract (x9_2 : Int).toNat x7_2.size), (t195), (by first | rfl | (simp; done) | (simp [*]; done)), (by first | rfl | (simp; done) | (simp [*]; done)), H', ⟨by have := HJ2.out; have := HK2.out; omega⟩, ⟨by (with_reducible repeat (first | apply Kd.R_alloc | apply Kd.R_drewN | apply Kd.R_drew)); exact HO194.out⟩, ⟨by (with_reducible repeat (first | refine blk_drewN ?_ _ | refine blk_drew ?_ | refine blk_alloc ?_ _)); exact BK188.out⟩, ⟨by repeat (first | (with_reducible first | exact HB.out | apply below_alloc | apply pw_below_drewN | apply below_drew1 | refine below_set ?_ GE188.out) | exact HB.out)⟩⟩
           ·rw [if_neg c16] at H
            exact absurd H (by simp)
          ·rw [if_neg c15] at H
           exact absurd H (by simp)
         ·rw [if_neg c14] at H
          exact absurd H (by simp)
        ·rw [if_neg c13] at H
         have c13b0 : decide (0 ≤ x9_2) = false := decide_eq_false c13
         clear c13
         by_cases c21 : x6_2.length < 8796093022208
         ·rw [if_pos c21] at H
          have LMc21 := Aside0.mk c21
          clear c21
          obtain ⟨y196, hy196⟩ : ∃ y_ : List ByteArray, y_ = (x6_2 ++ [x7_2]) := ⟨_, rfl⟩
          replace H : ((head_field.f k2 y196).bind fun bt199 => (some (bt199.1, bt199.2.1, bt199.2.2.1, 0))) = some (r1, r2, r3, r4) := by first | (rw [hy196]; with_reducible exact H) | (have H2_ := (Option.bind_some _ _).symm.trans H; rw [hy196]; with_reducible exact H2_) | (have H2_ := (Option.bind_some _ _).symm.trans H; with_reducible exact H2_) | with_reducible exact H | (rw [hy196]; exact H) | exact H
          have Ny196 := Aside0.mk hy196
          clear hy196
          replace H := Option.bind_eq_some_iff.mp H
          obtain ⟨⟨t199, t200, t201, t202⟩, A220, H⟩ := H
          replace H : (some (t199, t200, t201, 0)) = some (r1, r2, r3, r4) := H
          have A22 := Aside0.mk A220
          clear A220
          simp only [Option.some.injEq, Prod.mk.injEq] at H
          obtain ⟨rfl, rfl, rfl, rfl⟩ := H
          go_wp2_with (first | ((with_reducible refine gate_builtin (b := .append) (xs := #[.tmp 46, .tmp 48]) rfl ?_); at_builtin; refine Kd.R_append Kd.string (w0 := w) w.heap.size rfl (.tmp 46) (.tmp 48) 37 9 (.string ⟨#[]⟩) 16 rfl Tryd.underlying37 info9 rfl (by decide) (by omega) u6 x6_2 x7_2 [.string x7_2] (fun _ => True) (fun _ => False) rfl rfl ?aP (fun _ hk => hk.elim) ?aF ?aO ?aB ?aS ?aL ?_; (case aP => exact rfl); (case aB => exact bl); (case aF => exact (fun _ _ => trivial)); (case aO => exact (kr HO_6.out)); (case aS => exact (below_size bl)); (case aL => have := LMc21.out; omega); intro v197 w23 ho hb hg hat; rw [← Ny196.out] at ho; have n0_ := Aside0.mk (blk_grown (g := gb188) (o := .cells #[.string (⟨#[]⟩ : ByteArray), .string (⟨#[]⟩ : ByteArray), .string (⟨#[]⟩ : ByteArray)] 41 (0, 0)) (bk BK188.out) hg (Kd.R_ne HO_6.out BK188.out (by decide))); have n1_ := Aside0.mk (hb); have n2_ := Aside0.mk (ho); clear BK188; clear HB; clear HO_6; have BK188 := n0_; have HB := n1_; have HO198 := n2_; clear n0_ n1_ n2_; clear ho hb hg hat; obtain ⟨Ao24, co24, eo24⟩ := Kd.R_slice HO198.out; subst eo24) | ((with_reducible refine gate_callee (f := 42) rfl ?_); refine goesL_ (some 50) rfl rfl Tryd.func42 (by kernel_rfl) rfl #[.slice Ao24 y196.length co24] rfl ml ?_; (with_reducible refine (head_field.calls k2 _ _ y196 t199 t200 t201 t202 _ ?side1 ?side2 ?side3 A22.out).mono ?_); (case side1 => repeat (first | exact (Kd.R_reads' HO198.out).2.2 | (with_reducible refine Kd.C_alloc ?_ _) | (with_reducible refine Kd.C_drewN ?_ _) | (with_reducible refine Kd.C_drew ?_))); (case side2 => exact (Kd.R_reads' HO198.out).2.1); (case side3 => exact Glob.below HG.out bl); rintro e w25 ⟨rfl, hb⟩; refine ⟨_, rfl, ?_⟩; have n0_ := Aside0.mk (Kd.R_below (kr HO198.out) hb); have n1_ := Aside0.mk (kb BK188.out hb); have n2_ := Aside0.mk (below_step bl hb); clear HO198; clear BK188; clear HB; have HO198 := n0_; have BK188 := n1_; have HB := n2_; clear n0_ n1_ n2_; (try clear hb); (try clear hb2); (try clear hk); (try clear hi)) | ((with_reducible refine gate_dst (N := 10) rfl ?_); refine box_event ?hg (N := 10) ?hd (cs := #[.string (⟨#[]⟩ : ByteArray), .string (⟨#[]⟩ : ByteArray), .string (⟨#[]⟩ : ByteArray)]) (t := 41) ?hr ?_; (case hd => rfl); (case hg => rfl); (case hr => first | (go_simp; done) | (go_simp; rfl)); intro gb203 hg w26 hbox hb; have n0_ := Aside0.mk (Kd.R_below (kr HO198.out) hb); have n1_ := Aside0.mk (kb BK188.out hb); have n2_ := Aside0.mk (below_step bl hb); have n3_ := Aside0.mk (hbox); have n4_ := Aside0.mk ((by rw [hg]; exact (below_size bl) : w.heap.size ≤ gb203)); have n5_ := Aside0.mk ((by rw [hg]; exact (below_size bl) : w.heap.size ≤ gb203)); have n6_ := Aside0.mk ((by rw [hg]; exact Nat.ne_of_lt (blk_lt (bk BK188.out)) : gb188 ≠ gb203)); have n7_ := Aside0.mk ((by rw [hg]; exact Nat.ne_of_gt (blk_lt (bk BK188.out)) : gb203 ≠ gb188)); clear HO198; clear BK188; clear HB; have HO198 := n0_; have BK188 := n1_; have HB := n2_; have BK203 := n3_; have GW203 := n4_; have GE203 := n5_; have NB188_203 := n6_; have NB203_188 := n7_; clear n0_ n1_ n2_ n3_ n4_ n5_ n6_ n7_; clear hb hbox hg; have hnb27 := NB203_188.out; have hnc27 := NB188_203.out; have hcz28_0 : w26.cell? ⟨gb203, 0, none⟩ = some (.string (⟨#[]⟩ : ByteArray)) := (blk_cell BK203.out 0).trans rfl; have hcz28_1 : w26.cell? ⟨gb203, 1, none⟩ = some (.string (⟨#[]⟩ : ByteArray)) := (blk_cell BK203.out 1).trans rfl; have hcz28_2 : w26.cell? ⟨gb203, 2, none⟩ = some (.string (⟨#[]⟩ : ByteArray)) := (blk_cell BK203.out 2).trans rfl; have hfz28_0 := blk_frozen BK203.out 0; have hfz28_1 := blk_frozen BK203.out 1; have hfz28_2 := blk_frozen BK203.out 2; have hcz29_0 : w26.cell? ⟨gb188, 0, none⟩ = some (.string (⟨#[]⟩ : ByteArray)) := (blk_cell BK188.out 0).trans rfl; have hcz29_1 : w26.cell? ⟨gb188, 1, none⟩ = some (.string (⟨#[]⟩ : ByteArray)) := (blk_cell BK188.out 1).trans rfl; have hcz29_2 : w26.cell? ⟨gb188, 2, none⟩ = some (.string (⟨#[]⟩ : ByteArray)) := (blk_cell BK188.out 2).trans rfl; have hfz29_0 := blk_frozen BK188.out 0; have hfz29_1 := blk_frozen BK188.out 1; have hfz29_2 := blk_frozen BK188.out 2))
          refine bodyPost_ret (results_ct rfl _ _ gb188 41 #[.string t199, .string t200, .string t201] (0, 0) _ rfl (by (with_reducible repeat (first | refine blk_drewN ?_ _ | refine blk_drew ?_ | refine blk_alloc ?_ _)); refine blk_put (cs := #[.string t199, .string t200, .string (⟨#[]⟩ : ByteArray)]) ?_ 2 _ rfl; (with_reducible repeat (first | refine blk_drewN ?_ _ | refine blk_drew ?_ | refine blk_alloc ?_ _)); refine blk_put (cs := #[.string t199, .string (⟨#[]⟩ : ByteArray), .string (⟨#[]⟩ : ByteArray)]) ?_ 1 _ rfl; (with_reducible repeat (first | refine blk_drewN ?_ _ | refine blk_drew ?_ | refine blk_alloc ?_ _)); refine blk_put (cs := #[.string (⟨#[]⟩ : ByteArray), .string (⟨#[]⟩ : ByteArray), .string (⟨#[]⟩ : ByteArray)]) ?_ 0 _ rfl; (with_reducible repeat (first | refine blk_drewN ?_ _ | refine blk_drew ?_ | refine blk_alloc ?_ _)); refine blk_far ?_ NB188_203.out _; (with_reducible repeat (first | refine blk_drewN ?_ _ | refine blk_drew ?_ | refine blk_alloc ?_ _)); refine blk_far ?_ NB188_203.out _; (with_reducible repeat (first | refine blk_drewN ?_ _ | refine blk_drew ?_ | refine blk_alloc ?_ _)); refine blk_far ?_ NB188_203.out _; (with_reducible repeat (first | refine blk_drewN ?_ _ | refine blk_drew ?_ | refine blk_alloc ?_ _)); exact BK188.out) Tryd.underlying41 rfl (by kernel_rfl)) rfl ?_
          exact ⟨by first | rfl | (simp [bneNil]; done) | (simp [errW_none, errW_some] <;> rfl) | (simp [*, errW_none, errW_some] <;> rfl), by repeat (first | (with_reducible first | exact HB.out | apply below_alloc | apply pw_below_drewN | apply below_drew1 | refine below_set ?_ GE188.out | refine below_set ?_ GE203.out) | exact HB.out)⟩
         ·rw [if_neg c21] at H
          exact absurd H (by simp)
     ·rw [if_neg c11] at H
      exact absurd H (by simp)
    ·rw [if_neg c10] at H
     exact absurd H (by simp)

/-! ### slices_Equal_string_string: function 27 -/
def slices_Equal_string_string.l0 : Nat → List ByteArray → List ByteArray → Int → Int → Option (Bool)
  | 0, _, _, _, _ => none
  | k + 1, x0, x1, x12, x13 => if x13 < x12 then (if 0 ≤ x13 then (if x13 < (x0.length : Int) then (if x13 < (x1.length : Int) then (if (rdOf ByteArray.empty x0 x13).toList = (rdOf ByteArray.empty x1 x13).toList then (slices_Equal_string_string.l0 k x0 x1 x12 (wrap64 (x13 + 1))) else (some false)) else (none)) else (none)) else (none)) else (some true)
def slices_Equal_string_string.f (k : Nat) (l0 : List ByteArray) (l1 : List ByteArray) : Option (Bool) := if (l0.length : Int) = (l1.length : Int) then (slices_Equal_string_string.l0 k l0 l1 (l0.length : Int) 0) else (some false)
theorem slices_Equal_string_string.mono_l : ∀ k, (∀ y0 y1 y2 y3, LeO (slices_Equal_string_string.l0 k y0 y1 y2 y3) (slices_Equal_string_string.l0 (k + 1) y0 y1 y2 y3))
  | 0 => fun _ _ _ _ r h => by simp [slices_Equal_string_string.l0] at h
  | k + 1 => by
    have ih0 := slices_Equal_string_string.mono_l k
    · intro y0 y1 y2 y3
      unfold slices_Equal_string_string.l0
      repeat' first
      | (with_reducible exact ih0 _ _ _ _)
      | (with_reducible exact LeO.refl _)
      | (with_reducible exact LeO.none _)
      | (with_reducible refine LeO.ite ?_ ?_)
      | (with_reducible refine LeO.bind ?_ (fun _ => ?_))
      | exact ih0 _ _ _ _
      | exact LeO.none _
      | refine LeO.ite ?_ ?_
      | refine LeO.bind ?_ (fun _ => ?_)
theorem slices_Equal_string_string.mono : ∀ a0 a1 k, LeO (slices_Equal_string_string.f k a0 a1) (slices_Equal_string_string.f (k + 1) a0 a1) := by
  intro a0 a1 k
  have ih0 := slices_Equal_string_string.mono_l k
  unfold slices_Equal_string_string.f
  repeat' first
      | (with_reducible exact ih0 _ _ _ _)
      | (with_reducible exact LeO.refl _)
      | (with_reducible exact LeO.none _)
      | (with_reducible refine LeO.ite ?_ ?_)
      | (with_reducible refine LeO.bind ?_ (fun _ => ?_))
      | exact ih0 _ _ _ _
      | exact LeO.none _
      | refine LeO.ite ?_ ?_
      | refine LeO.bind ?_ (fun _ => ?_)
set_option maxHeartbeats 8000000 in
set_option maxRecDepth 100000 in
theorem slices_Equal_string_string.calls (k : Nat) (A0 : Option Addr) (c0 : Nat) (l0 : List ByteArray) (A1 : Option Addr) (c1 : Nat) (l1 : List ByteArray) (r : Bool) (w : World) (hr0 : Kd.C Kd.string w A0 l0.length l0) (hc0 : l0.length ≤ c0) (hr1 : Kd.C Kd.string w A1 l1.length l1) (hc1 : l1.length ≤ c1) (h : slices_Equal_string_string.f k l0 l1 = some r) :
    Calls Tryd.prog 27 #[.slice A0 l0.length c0, .slice A1 l1.length c1] w fun e w' => e = .returned (.bool r) ∧ Drawn0 w w' := by
  have HR0 := Aside0.mk hr0
  have HC0 := Aside0.mk hc0
  clear hr0 hc0
  have HR1 := Aside0.mk hr1
  have HC1 := Aside0.mk hc1
  clear hr1 hc1
  have H : (if (l0.length : Int) = (l1.length : Int) then (slices_Equal_string_string.l0 k l0 l1 (l0.length : Int) 0) else (some false)) = some r := h
  clear h
  by_cases c3 : (l0.length : Int) = (l1.length : Int)
  · rw [if_pos c3] at H
    have c3b0 : ((l0.length : Int) == (l1.length : Int)) = true := beq_iff_eq.mpr c3
    have c3b1 : ((l0.length : Int) != (l1.length : Int)) = false := bne_eq_false_iff_eq.mpr c3
    have c3b2 : (l0.length == l1.length) = true := by first | simpa using c3 | (simp at c3 ⊢; omega)
    clear c3
    have H' := Aside0.mk H
    clear H
    go_enter Tryd.func27, Tryd.ntmps27
    go_wp2
    repeat (go_quiet (fail); try go_wp2)
    go_loopg [13] k (fun kq v13 w' => ∃ (x13_1 : Int), v13 = .int .i64 x13_1 ∧ Aside0 (slices_Equal_string_string.l0 kq l0 l1 (l0.length : Int) x13_1 = some r) ∧ Aside0 (kq ≤ k) ∧ Drawn0 w w')
    case atStart => exact ⟨(0), (by first | rfl | (simp; done) | (simp [*]; done)), H', ⟨Nat.le_refl _⟩, by repeat (first | exact Drawn0.refl _ | apply Drawn0.step)⟩
    case round =>
      clear H'
      try clear c1
      try clear c2
      try clear p2
      try clear c3
      try clear c3b0
      try clear c3b1
      try clear c3b2
      obtain ⟨x13_1, rfl, HA, HK1, ⟨m1, rfl⟩⟩ := hrel
      cases gk with
      | zero => exact absurd HA.out (by simp [slices_Equal_string_string.l0])
      | succ k1 =>
        have H := HA.out
        clear HA
        simp only [slices_Equal_string_string.l0] at H
        by_cases c4 : x13_1 < (l0.length : Int)
        · rw [if_pos c4] at H
          have c4b0 : decide (x13_1 < (l0.length : Int)) = true := decide_eq_true c4
          clear c4
          by_cases c5 : 0 ≤ x13_1
          · rw [if_pos c5] at H
            have c5b0 : decide (0 ≤ x13_1) = true := decide_eq_true c5
            clear c5
            by_cases c6 : x13_1 < (l0.length : Int)
            · rw [if_pos c6] at H
              have c6b0 : decide (x13_1 < (l0.length : Int)) = true := decide_eq_true c6
              clear c6
              by_cases c7 : x13_1 < (l1.length : Int)
              · rw [if_pos c7] at H
                have c7b0 : decide (x13_1 < (l1.length : Int)) = true := decide_eq_true c7
                clear c7
                by_cases c8 : (rdOf ByteArray.empty l0 x13_1).toList = (rdOf ByteArray.empty l1 x13_1).toList
                · rw [if_pos c8] at H
                  have c8b0 : ((rdOf ByteArray.empty l0 x13_1).toList == (rdOf ByteArray.empty l1 x13_1).toList) = true := beq_iff_eq.mpr c8
                  have c8b1 : ((rdOf ByteArray.empty l0 x13_1).toList != (rdOf ByteArray.empty l1 x13_1).toList) = false := bne_eq_false_iff_eq.mpr c8
                  clear c8
                  have H' := Aside0.mk H
                  clear H
                  have p204 : 0 ≤ (x13_1 : Int) := of_decide_eq_true (by first | (with_reducible assumption) | assumption)
                  have q204 : x13_1 < (l0.length : Int) := of_decide_eq_true (by first | (with_reducible assumption) | assumption)
                  obtain ⟨ad204, e204, hx204_0⟩ := Kd.at_string HR0.out x13_1 p204 q204
                  cases e204
                  replace p204 := eq_true p204
                  replace q204 := eq_true q204
                  have p205 : 0 ≤ (x13_1 : Int) := of_decide_eq_true (by first | (with_reducible assumption) | assumption)
                  have q205 : x13_1 < (l1.length : Int) := of_decide_eq_true (by first | (with_reducible assumption) | assumption)
                  obtain ⟨ad205, e205, hx205_0⟩ := Kd.at_string HR1.out x13_1 p205 q205
                  cases e205
                  replace p205 := eq_true p205
                  replace q205 := eq_true q205
                  go_wp2
                  repeat (go_quiet (fail); try go_wp2)
                  go_roundg k1
                  case measure => have := HK1.out; omega
                  case rel => exact ⟨(wrap64 (x13_1 + 1)), (by first | rfl | (simp; done) | (simp [*]; done)), H', ⟨by have := HK1.out; omega⟩, by repeat (first | exact Drawn0.refl _ | apply Drawn0.step)⟩
                · rw [if_neg c8] at H
                  have c8b0 : ((rdOf ByteArray.empty l0 x13_1).toList == (rdOf ByteArray.empty l1 x13_1).toList) = false := beq_eq_false_iff_ne.mpr c8
                  have c8b1 : ((rdOf ByteArray.empty l0 x13_1).toList != (rdOf ByteArray.empty l1 x13_1).toList) = true := bne_iff_ne.mpr c8
                  obtain rfl := Option.some.inj H
                  have p204 : 0 ≤ (x13_1 : Int) := of_decide_eq_true (by first | (with_reducible assumption) | assumption)
                  have q204 : x13_1 < (l0.length : Int) := of_decide_eq_true (by first | (with_reducible assumption) | assumption)
                  obtain ⟨ad204, e204, hx204_0⟩ := Kd.at_string HR0.out x13_1 p204 q204
                  cases e204
                  replace p204 := eq_true p204
                  replace q204 := eq_true q204
                  have p205 : 0 ≤ (x13_1 : Int) := of_decide_eq_true (by first | (with_reducible assumption) | assumption)
                  have q205 : x13_1 < (l1.length : Int) := of_decide_eq_true (by first | (with_reducible assumption) | assumption)
                  obtain ⟨ad205, e205, hx205_0⟩ := Kd.at_string HR1.out x13_1 p205 q205
                  cases e205
                  replace p205 := eq_true p205
                  replace q205 := eq_true q205
                  go_wp2
                  repeat (go_quiet (fail); try go_wp2)
                  go_ret
                  exact ⟨by first | rfl | (simp [bneNil]; done) | (simp; done) | (simp [*]; done), by repeat (first | exact Drawn0.refl _ | apply Drawn0.step)⟩
              · rw [if_neg c7] at H
                exact absurd H (by simp)
            · rw [if_neg c6] at H
              exact absurd H (by simp)
          · rw [if_neg c5] at H
            exact absurd H (by simp)
        · rw [if_neg c4] at H
          have c4b0 : decide (x13_1 < (l0.length : Int)) = false := decide_eq_false c4
          clear c4
          obtain rfl := Option.some.inj H
          go_wp2
          repeat (go_quiet (fail); try go_wp2)
          go_ret
          exact ⟨by first | rfl | (simp [bneNil]; done) | (simp; done) | (simp [*]; done), by repeat (first | exact Drawn0.refl _ | apply Drawn0.step)⟩
  · rw [if_neg c3] at H
    have c3b0 : ((l0.length : Int) == (l1.length : Int)) = false := beq_eq_false_iff_ne.mpr c3
    have c3b1 : ((l0.length : Int) != (l1.length : Int)) = true := bne_iff_ne.mpr c3
    have c3b2 : (l0.length == l1.length) = false := by first | simpa using c3 | (simp at c3 ⊢; omega)
    obtain rfl := Option.some.inj H
    go_enter Tryd.func27, Tryd.ntmps27
    go_wp2
    repeat (go_quiet (fail); try go_wp2)
    go_ret
    exact ⟨by first | rfl | (simp [bneNil]; done) | (simp; done) | (simp [*]; done), by repeat (first | exact Drawn0.refl _ | apply Drawn0.step)⟩

end Go.Proofs.YtdciiahlakgikaaDoor.Q
end
section
namespace Go.Proofs.YtdciiahlakgikaaDoor.Q
open Go.RowKit Go.Proofs.YtdciiahlakgikaaDoorW.PrintWords Go.Proofs.YtdciiahlakgikaaDoorW.PrintLast Go.Proofs.YtdciiahlakgikaaDoorW.PrintMore
attribute [local go_sem] max2_int min2_int max_two min_two max_three min_three max_four min_four   -- for this text's walks alone
set_option linter.unusedVariables false
set_option linter.unusedSimpArgs false

/-! ### text_Lower: function 113 (by hand) -/
def lowC (c : UInt8) : UInt8 := if 65 ≤ c.toNat ∧ c.toNat ≤ 90 then c + 32 else c
def lowerB (s : ByteArray) : ByteArray := ⟨(s.data.toList.map lowC).toArray⟩
def text_Lower.f (a0 : ByteArray) : Option ByteArray := if a0.size < 70368744177000 then some (lowerB a0) else none
def lowT (s : ByteArray) (k : Nat) : List UInt8 := (s.data.toList.take k).map lowC ++ s.data.toList.drop k
/-- The row behind k rounds. -/
def LowRow (s : ByteArray) (k : Nat) (cs : Array Value) : Prop := ∀ j, j < s.size → cs[j]? = some (.int .u8 (((lowT s k).getD j 0).toNat : Nat))
theorem s_len (s : ByteArray) : s.data.toList.length = s.size := by rw [Array.length_toList]; rfl
theorem lowT_at (s : ByteArray) (k j : Nat) (hk : k ≤ s.size) (hj : j < s.size) : (lowT s k).getD j 0 = if j < k then lowC (s[j]'hj) else s[j]'hj := by
  have hl := s_len s
  unfold lowT
  rw [List.getD_eq_getElem?_getD]
  by_cases h : j < k
  · rw [if_pos h, List.getElem?_append_left (by simp; omega)]
    rw [List.getElem?_map, List.getElem?_take_of_lt h, List.getElem?_eq_getElem (by omega)]
    simp
    rfl
  · rw [if_neg h, List.getElem?_append_right (by simp; omega)]
    simp only [List.length_map, List.length_take, List.getElem?_drop]
    rw [show k + (j - min k s.data.toList.length) = j by omega, List.getElem?_eq_getElem (by omega)]
    simp
    rfl
theorem lowT_end (s : ByteArray) : lowT s s.size = s.data.toList.map lowC := by
  unfold lowT
  rw [List.take_of_length_le (by rw [s_len]; omega), List.drop_of_length_le (by rw [s_len]; omega), List.append_nil]
theorem LowRow.start {W w1 : World} {g e : Nat} {s : ByteArray} : LowRow s 0 (Lib.bytesCells w1 e s) := by
  intro j hj
  rw [lowT_at s 0 j (by omega) hj, if_neg (by omega)]
  simp [Lib.bytesCells, Array.getElem?_append, hj]
  rfl
theorem LowRow.same {s : ByteArray} {k : Nat} {cs : Array Value} (h : LowRow s k cs) (hk : k < s.size) (hc : lowC (s[k]'hk) = s[k]'hk) : LowRow s (k + 1) cs := by
  intro j hj
  rw [h j hj, lowT_at s k j (by omega) hj, lowT_at s (k + 1) j (by omega) hj]
  by_cases e : j = k
  · subst e; rw [if_neg (by omega), if_pos (by omega), hc]
  · by_cases l : j < k
    · rw [if_pos l, if_pos (by omega)]
    · rw [if_neg l, if_neg (by omega)]
theorem LowRow.put {s : ByteArray} {k : Nat} {cs : Array Value} (h : LowRow s k cs) (hk : k < s.size) (v : Nat) (hv : v = (lowC (s[k]'hk)).toNat) : LowRow s (k + 1) (cs.setIfInBounds k (.int .u8 (v : Nat))) := by
  intro j hj
  rw [Array.getElem?_setIfInBounds]
  have hsz : k < cs.size := (Array.getElem?_eq_some_iff.1 (h k hk)).1
  by_cases e : k = j
  · subst e
    rw [if_pos rfl, if_pos hsz, lowT_at s (k + 1) k (by omega) hj, if_pos (by omega), hv]
  · rw [if_neg e, h j hj, lowT_at s k j (by omega) hj, lowT_at s (k + 1) j (by omega) hj]
    by_cases l : j < k
    · rw [if_pos l, if_pos (by omega)]
    · rw [if_neg l, if_neg (by omega)]
theorem low_str (s : ByteArray) : strOfNums ((lowT s s.size).map fun c => (c.toNat : Int)) = lowerB s := by
  rw [lowT_end]
  unfold strOfNums lowerB
  simp [List.map_map, Function.comp_def]
theorem blk_setF {w : World} {g : Nat} {t : TypeId} {cs : Array Value} {fz : Nat × Nat} (h : w.heap[g]? = some (.cells cs t fz)) (i : Nat) (u : Value) : (w.setCell ⟨g, i, none⟩ u).heap[g]? = some (.cells (cs.setIfInBounds i u) t fz) := by
  simp [World.setCell, Array.getElem?_modify, h]
set_option maxHeartbeats 1000000 in
set_option maxRecDepth 100000 in
theorem text_Lower.calls (a0 : ByteArray) (r : ByteArray) (w : World) (h : text_Lower.f a0 = some r) :
    Calls Tryd.prog 113 #[.string a0] w fun e w' => e = .returned (.string r) ∧ Below w.heap.size w w' := by
  unfold text_Lower.f at h
  by_cases hsz : a0.size < 70368744177000
  · rw [if_pos hsz] at h
    obtain rfl := Option.some.inj h
    clear h
    have hcv := fun W => print_bytes (P := Tryd.prog) 9 39 5 Tryd.underlying9 Tryd.underlying39 Tryd.underlying5 a0 W
    go_enter Tryd.func113, Tryd.ntmps113
    go_wp2
    clear hcv
    have HG := Lib.hid (Lib.bytesWorld_at_new w 5 a0)
    have HB := Lib.hid (bytes_below (Below.refl w.heap.size w) (Nat.le_refl _) 5 a0)
    have HL := Lib.hid (LowRow.start (W := w) (w1 := w) (g := 0) (e := 5) (s := a0))
    have HC := Lib.hid (show a0.size ≤ (Lib.bytesCells w 5 a0).size by simp [Lib.bytesCells])
    obtain ⟨w3, hw3⟩ : ∃ w3, w3 = Lib.bytesWorld w 5 a0 := ⟨_, rfl⟩
    rw [← hw3] at HG HB ⊢
    clear hw3
    generalize Lib.bytesCells w 5 a0 = C at HG HL HC
    generalize grownCap w a0.size 0 5 = cap
    obtain ⟨g, hg⟩ : ∃ g, g = w.heap.size := ⟨_, rfl⟩
    have Hg := Lib.hid hg
    rw [← hg] at HG ⊢
    clear hg
    go_loopw [10] (fun v10 w' => ∃ (k : Nat) (cs : Array Value), v10 = .int .i64 k ∧ k ≤ a0.size ∧ Aside0 (w'.heap[g]? = some (.cells cs 5 (C.size, C.size + 1))) ∧ Aside0 (LowRow a0 k cs) ∧ Aside0 (Below w.heap.size w w')) (fun v10 _ => a0.size - (intOf v10).toNat)
    case atStart => exact ⟨0, C, rfl, Nat.zero_le _, ⟨HG.out⟩, ⟨HL.out⟩, ⟨HB.out⟩⟩
    case round =>
      clear HG HL HB
      obtain ⟨k, cs, rfl, hk, HG, HL, HB⟩ := hrel
      by_cases hlt : k < a0.size
      · have hcell : wr.cell? ⟨g, k, none⟩ = some (.int .u8 ((a0[k]'hlt).toNat : Nat)) := by
          rw [World.cell?]
          simp only [HG.out]
          have := HL.out k hlt
          rw [lowT_at a0 k k (by omega) hlt, if_neg (by omega)] at this
          simpa using this
        have hfz : wr.frozen? ⟨g, k, none⟩ = false := by
          have := HC.out
          simp only [World.frozen?, HG.out]
          simp
          omega
        have HP := Lib.hid (HL.out.put hlt)
        have HE := Lib.hid (HL.out.same hlt)
        have hc256 : (a0[k]'hlt).toNat < 256 := UInt8.toNat_lt _
        have Hlow : Hid ((lowC (a0[k]'hlt)).toNat = if 65 ≤ (a0[k]'hlt).toNat ∧ (a0[k]'hlt).toNat ≤ 90 then (a0[k]'hlt).toNat + 32 else (a0[k]'hlt).toNat) := Lib.hid (by
          unfold lowC
          split
          · rw [UInt8.toNat_add]; simp; omega
          · rfl)
        obtain ⟨d, hd⟩ : ∃ d, d = a0[k]'hlt := ⟨_, rfl⟩
        rw [← hd] at HP HE Hlow hcell hc256
        obtain ⟨c, hc⟩ : ∃ c : Nat, c = d.toNat := ⟨_, rfl⟩
        rw [← hc] at Hlow hcell hc256
        have Hc := Lib.hid hc
        clear hc hd
        by_cases h1 : 65 ≤ c
        · have b1 : decide (65 ≤ (c : Int)) = true := decide_eq_true (by omega)
          by_cases h2 : c ≤ 90
          · have b2 : decide ((c : Int) ≤ 90) = true := decide_eq_true (by omega)
            go_wp2
            go_roundw
            case rel => exact ⟨k + 1, _, by go_num, hlt, ⟨blk_setF HG.out k _⟩, ⟨by
              have hv := HP.out (c + 32) (by rw [Hlow.out, if_pos ⟨h1, h2⟩])
              have e : ((c : Int) + 97 - 65) = ((c + 32 : Nat) : Int) := by omega
              first | (rw [e]; exact hv) | exact hv⟩, ⟨below_set HB.out (by have := Hg.out; omega)⟩⟩
            case measure => simp [intOf]; omega
          · have b2 : decide ((c : Int) ≤ 90) = false := decide_eq_false (by omega)
            go_wp2
            go_roundw
            case rel => exact ⟨k + 1, cs, by go_num, hlt, HG, ⟨HE.out (UInt8.toNat_inj.mp (by rw [Hlow.out, if_neg (by omega), Hc.out]))⟩, HB⟩
            case measure => simp [intOf]; omega
        · have b1 : decide (65 ≤ (c : Int)) = false := decide_eq_false (by omega)
          go_wp2
          go_roundw
          case rel => exact ⟨k + 1, cs, by go_num, hlt, HG, ⟨HE.out (UInt8.toNat_inj.mp (by rw [Hlow.out, if_neg (by omega), Hc.out]))⟩, HB⟩
          case measure => simp [intOf]; omega
      · have hk' : k = a0.size := by omega
        subst hk'
        have hcs := run_convert_bytes_arg (P := Tryd.prog) wr 39 5 Tryd.underlying39 Tryd.underlying5 g 0 a0.size cap ((lowT a0 a0.size).map fun c => (c.toNat : Int)) (by rw [List.length_map, lowT_end, List.length_map, s_len]) (fun i hi => by
          rw [Nat.zero_add, World.cell?]
          simp only [HG.out]
          have := HL.out i hi
          rw [lowT_end] at this ⊢
          have hl : i < a0.data.toList.length := by rw [s_len]; exact hi
          simp only [List.getD_eq_getElem?_getD, List.getElem?_map, List.getElem?_eq_getElem hl, Option.map_some, Option.getD_some] at this ⊢
          exact this) 9 Tryd.underlying9
        rw [low_str] at hcs
        go_wp2
        go_ret
        exact ⟨rfl, HB.out⟩
  · rw [if_neg hsz] at h; cases h


/-! ### text_Same: function 94 -/
def text_Same.f (a0 : ByteArray) (a1 : ByteArray) : Option (Bool) := (text_Lower.f a0).bind fun t206 => ((text_Lower.f a1).bind fun t207 => (some (t206.toList == t207.toList)))
set_option maxHeartbeats 8000000 in
set_option maxRecDepth 100000 in
theorem text_Same.calls (a0 : ByteArray) (a1 : ByteArray) (r : Bool) (w : World) (h : text_Same.f a0 a1 = some r) :
    Calls Tryd.prog 94 #[.string a0, .string a1] w fun e w' => e = .returned (.bool r) ∧ Below w.heap.size w w' := by
  have HB := Aside0.mk (Below.refl w.heap.size w)
  have H : ((text_Lower.f a0).bind fun t206 => ((text_Lower.f a1).bind fun t207 => (some (t206.toList == t207.toList)))) = some r := h
  clear h
  replace H := Option.bind_eq_some_iff.mp H
  obtain ⟨t206, A30, H⟩ := H
  replace H : ((text_Lower.f a1).bind fun t207 => (some (t206.toList == t207.toList))) = some r := H
  have A3 := Aside0.mk A30
  clear A30
  replace H := Option.bind_eq_some_iff.mp H
  obtain ⟨t207, A40, H⟩ := H
  replace H : (some (t206.toList == t207.toList)) = some r := H
  have A4 := Aside0.mk A40
  clear A40
  obtain rfl := Option.some.inj H
  go_enter Tryd.func94, Tryd.ntmps94
  go_wp2_with (first | ((with_reducible refine gate_callee (f := 113) rfl ?_); refine goesL_ (some 6) rfl rfl Tryd.func113 (by kernel_rfl) rfl #[.string a0] rfl (by (try simp only [List.map_toArray, List.map_cons, List.map_nil]); first | done | rfl | (simp only [List.length_drop, List.length_take]; rfl)) ?_; (with_reducible refine (text_Lower.calls a0 t206 _ A3.out).mono ?_); rintro e w5 ⟨rfl, hb⟩; refine ⟨_, rfl, ?_⟩; have n0_ := Aside0.mk (below_step (by repeat (first | (with_reducible first | exact HB.out | apply below_alloc | apply pw_below_drewN | apply below_drew1) | exact HB.out)) hb); clear HB; have HB := n0_; clear n0_; (try clear hb); (try clear hb2); (try clear hk); (try clear hi)) | ((with_reducible refine gate_callee (f := 113) rfl ?_); refine goesL_ (some 8) rfl rfl Tryd.func113 (by kernel_rfl) rfl #[.string a1] rfl (by (try simp only [List.map_toArray, List.map_cons, List.map_nil]); first | done | rfl | (simp only [List.length_drop, List.length_take]; rfl)) ?_; (with_reducible refine (text_Lower.calls a1 t207 _ A4.out).mono ?_); rintro e w6 ⟨rfl, hb⟩; refine ⟨_, rfl, ?_⟩; have n0_ := Aside0.mk (below_step (by repeat (first | (with_reducible first | exact HB.out | apply below_alloc | apply pw_below_drewN | apply below_drew1) | exact HB.out)) hb); clear HB; have HB := n0_; clear n0_; (try clear hb); (try clear hb2); (try clear hk); (try clear hi)))
  go_ret
  exact ⟨by first | rfl | (simp [bneNil]; done) | (simp [errW_none, errW_some] <;> rfl) | (simp [*, errW_none, errW_some] <;> rfl), by repeat (first | (with_reducible first | exact HB.out | apply below_alloc | apply pw_below_drewN | apply below_drew1) | exact HB.out)⟩

/-! ### head_Message_Find: function 28 (by hand) -/
def headSel (l0 : List S41) (nm : ByteArray) : List ByteArray := (l0.filter fun x => decide (lowerB x.f0 = lowerB nm)).map (·.f1)
def headSelOk (l0 : List S41) (nm : ByteArray) : Prop := (∀ x ∈ l0, x.f0.size < 70368744177000) ∧ nm.size < 70368744177000 ∧ l0.length ≤ 1000000000000
instance (l0 : List S41) (nm : ByteArray) : Decidable (headSelOk l0 nm) := by unfold headSelOk; infer_instance
section
open Go.Shelf
attribute [local go_sem] Oper.semAt_some

theorem sel_succ_yes (l0 : List S41) (nm : ByteArray) (k : Nat) {x : Int} (hx : x = (k : Nat)) (h : k < l0.length) (e : lowerB (rd_T41 l0 x).f0 = lowerB nm) : headSel (l0.take (k + 1)) nm = headSel (l0.take k) nm ++ [(rd_T41 l0 x).f1] := by
  have hr : rd_T41 l0 x = l0[k] := by
    subst hx
    unfold rd_T41; rw [Int.toNat_natCast, List.getD_eq_getElem?_getD, List.getElem?_eq_getElem h]; rfl
  rw [hr] at e ⊢
  unfold headSel
  rw [List.take_succ_eq_append_getElem h, List.filter_append, List.map_append]
  simp [List.filter_cons, e]
theorem sel_succ_no (l0 : List S41) (nm : ByteArray) (k : Nat) {x : Int} (hx : x = (k : Nat)) (h : k < l0.length) (e : lowerB (rd_T41 l0 x).f0 ≠ lowerB nm) : headSel (l0.take (k + 1)) nm = headSel (l0.take k) nm := by
  have hr : rd_T41 l0 x = l0[k] := by
    subst hx
    unfold rd_T41; rw [Int.toNat_natCast, List.getD_eq_getElem?_getD, List.getElem?_eq_getElem h]; rfl
  rw [hr] at e
  unfold headSel
  rw [List.take_succ_eq_append_getElem h, List.filter_append, List.map_append]
  simp [List.filter_cons, e]
theorem sel_pre (l0 : List S41) (nm : ByteArray) (k : Nat) : headSel (l0.take k) nm <+: headSel l0 nm := by
  unfold headSel
  exact ((List.take_prefix k l0).filter _).map _
theorem same_some (a b : ByteArray) (ha : a.size < 70368744177000) (hb : b.size < 70368744177000) : text_Same.f a b = some (decide (lowerB a = lowerB b)) := by
  unfold text_Same.f text_Lower.f
  rw [if_pos ha, if_pos hb]
  simp only [Option.bind_some]
  congr 1
  rw [Bool.eq_iff_iff, beq_iff_eq, decide_eq_true_iff]
  constructor
  · intro h
    unfold lowerB at h ⊢
    rw [ByteArray.toList_eq, ByteArray.toList_eq] at h
    simpa using h
  · intro h; rw [h]
/-- What the iterator reads: boxes in the world in which it was made; the fields' row, below the world ws. -/
structure ValAt (ws w0 : World) (Bm Bn : Nat) (A0 : Option Addr) (c0 : Nat) (l0 : List S41) (a1 : ByteArray) (a2 : Bool) (nm : ByteArray) : Prop where
  m : w0.heap[Bm]? = some (.cells #[.slice A0 l0.length c0, .string a1, .bool a2] 24 (0, 0))
  n : w0.heap[Bn]? = some (.cells #[.string nm] 9 (0, 0))
  r : Kd.C k41 ws A0 l0.length l0
  c : l0.length ≤ c0
  b : Below ws.heap.size ws w0
theorem ValAt.below {ws w0 w1 : World} {Bm Bn c0 : Nat} {A0 : Option Addr} {l0 : List S41} {a1 nm : ByteArray} {a2 : Bool} (h : ValAt ws w0 Bm Bn A0 c0 l0 a1 a2 nm) (hb : Below w0.heap.size w0 w1) : ValAt ws w1 Bm Bn A0 c0 l0 a1 a2 nm :=
  ⟨blk_below h.m hb, blk_below h.n hb, h.r, h.c, h.b.trans (hb.mono h.b.size)⟩
/-- What a round leaves as it is. -/
def KeepV (n₀ Bn : Nat) (W W' : World) : Prop := Below n₀ W W' ∧ W'.heap[Bn]? = W.heap[Bn]?
theorem KeepV.t {n₀ Bn : Nat} {A B C : World} (h : KeepV n₀ Bn A B) (k : KeepV n₀ Bn B C) : KeepV n₀ Bn A C := ⟨h.1.trans k.1, k.2.trans h.2⟩
theorem KeepV.b {n₀ Bn : Nat} {w : World} (hn : n₀ ≤ w.heap.size) (hB : Bn < w.heap.size) (W : World) (l : Nat) (o o' : Obj) (hl : w.heap.size ≤ l) (h : W.heap[l]? = some o) (h1 : o.isCells = false) (h2 : o.isWalk = false) : KeepV n₀ Bn W (W.putObj l o') :=
  ⟨belowK_b hn W l o o' hl h h1 h2, World.putObj_heap_other (by omega)⟩

set_option maxRecDepth 100000 in
set_option maxHeartbeats 2000000 in
theorem vals_in (n : Nat) (hn : 1 ≤ n) (l Bm Bn : Nat) (A0 : Option Addr) (c0 : Nat) (l0 : List S41) (a1 : ByteArray) (a2 : Bool) (nm : ByteArray) (hok : headSelOk l0 nm) (J Jx : List ByteArray → World → Prop) (ws W : World)
    (hJ : AbidesFrom W.heap.size J)
    (hY : ∀ pre x W, J pre W → pre.length < (headSel l0 nm).length → YieldAt Fence.wide (n - 1) Tryd.prog l #[.string x] W fun e W' =>
      (e = .returned (.bool true) ∧ J (pre ++ [x]) W' ∧ KeepV ws.heap.size Bn W W') ∨ (e = .returned (.bool false) ∧ Jx (pre ++ [x]) W'))
    (hv0 : ValAt ws W Bm Bn A0 c0 l0 a1 a2 nm) (h0 : J [] W) :
    CallsIn Fence.wide n Tryd.prog 93 #[.func (.yield l) #[] #[], .pointer (some ⟨Bm, 0, none⟩), .pointer (some ⟨Bn, 0, none⟩)] W fun e W' => (∃ v, e = .returned v) ∧
      ((∃ ys, ys = headSel l0 nm ∧ J ys W') ∨ (∃ pre, pre <+: headSel l0 nm ∧ Jx pre W')) := by
  have HV := Aside0.mk hv0
  have HB := Aside0.mk hv0.b
  have HN := Aside0.mk hv0.n
  have HJ := Aside0.mk hJ
  have HY := Aside0.mk hY
  have H0 := Aside0.mk h0
  have HK := Aside0.mk hok
  have hl9 : l0.length ≤ 1000000000000 := hok.2.2
  clear hv0 hJ hY h0 hok
  have hq1 := (blk_cell HV.out.m 0).trans rfl
  refine callsIn_of_wp Tryd.func93 rfl trivial ?_ rfl
  simp only [Tryd.ntmps93, List.size_toArray, List.length_cons, List.length_nil, Nat.reduceAdd, Nat.reduceSub, Array.replicate_succ, Array.replicate_zero, List.push_toArray, List.append_toArray, List.nil_append, List.cons_append]
  gi_wp2
  gi_loopw [9] (fun v9 w' => ∃ (x : Int) (k : Nat), v9 = .int .i64 x ∧ Aside0 (x = (k : Nat)) ∧ 0 ≤ x ∧ x ≤ l0.length ∧ Aside0 (J (headSel (l0.take k) nm) w') ∧ Aside0 (Below ws.heap.size ws w') ∧ Aside0 (w'.heap[Bn]? = some (.cells #[.string nm] 9 (0, 0)))) (fun v9 _ => l0.length - (intOf v9).toNat)
  case atStart => exact ⟨0, 0, rfl, ⟨rfl⟩, Int.le_refl _, by omega, ⟨by simpa [headSel] using H0.out⟩, HB, HN⟩
  case round =>
    clear H0 HB HN
    obtain ⟨x, k, rfl, Hx, hx0, hx1, HI, HB, HN⟩ := hrel
    by_cases hlt : x < l0.length
    · have hk : k < l0.length := by have := Hx.out; omega
      obtain ⟨ad, e, g0, g1, g2⟩ := at_T41 (Kd.C_below HV.out.r HB.out) x hx0 hlt
      cases e
      have hn0 : wr.cell? ⟨Bn, 0, none⟩ = some (.string nm) := (blk_cell HN.out 0).trans rfl
      have hn1 : ∀ o, (wr.alloc o).cell? ⟨Bn, 0, none⟩ = some (.string nm) := fun o => (World.cell?_alloc_lt wr o _ (blk_lt HN.out)).trans hn0
      have hd : decide (x < (l0.length : Int)) = true := decide_eq_true hlt
      obtain ⟨bb, hbb⟩ : ∃ bb, bb = decide (lowerB (rd_T41 l0 x).f0 = lowerB nm) := ⟨_, rfl⟩
      have HS := Aside0.mk (same_some (rd_T41 l0 x).f0 nm (HK.out.1 _ (by rw [rd_T41, List.getD_eq_getElem?_getD, List.getElem?_eq_getElem (by have := Hx.out; omega)]; exact List.getElem_mem _)) HK.out.2.1)
      rw [← hbb] at HS
      have Hbb := Aside0.mk hbb
      have HL : Aside0 (bb = true → (headSel (l0.take k) nm).length < (headSel l0 nm).length) := ⟨fun e => by
        rw [hbb, decide_eq_true_iff] at e
        have h1 := sel_succ_yes l0 nm k Hx.out hk e
        have h2 := (sel_pre l0 nm (k + 1)).length_le
        rw [h1, List.length_append] at h2
        simp at h2
        omega⟩
      clear hbb
      cases bb with
      | true =>
        gi_wp2_with (refine ⟨trivial, ?_⟩; gi_at_call 94; (with_reducible refine (callsIn_wide.2 (text_Same.calls _ _ _ _ HS.out)).mono ?_); rintro e2 w2 ⟨rfl, hb2⟩; have hc2 : w2.cell? ⟨wr.heap.size, 1, none⟩ = some (.string (rd_T41 l0 x).f1) := (blk_cell (blk_below (blk_new _ _) hb2) 1).trans rfl; have HI2 : Aside0 (J (headSel (l0.take k) nm) w2) := ⟨HJ.out _ _ _ none HI.out ((World.grownBy_alloc wr _ none).trans (grown_of_below hb2 none)) (fun _ h => by cases h)⟩; have HN2 : Aside0 (w2.heap[Bn]? = some (.cells #[.string nm] 9 (0, 0))) := ⟨blk_below (blk_alloc HN.out _) hb2⟩; have HB2 : Aside0 (Below ws.heap.size ws w2) := ⟨(HB.out.alloc HB.out.size _).trans (hb2.mono (Nat.le_trans HB.out.size (by simp)))⟩; obtain ⟨fn, tmps, assign, body, hy, hR⟩ := HY.out _ (rd_T41 l0 x).f1 w2 HI2.out (HL.out rfl); have HRR := Aside0.mk hR; clear hR; clear hb2)
        refine HRR.out.mono ?_
        rintro e3 w3 (⟨rfl, hJ3, hk3⟩ | ⟨rfl, hJ3⟩)
        · gi_wp2
          exact ⟨⟨x + 1, k + 1, rfl, ⟨by have := Hx.out; omega⟩, by omega, by omega, ⟨by rw [sel_succ_yes l0 nm k Hx.out hk (of_decide_eq_true Hbb.out.symm)]; exact hJ3⟩, ⟨HB2.out.trans hk3.1⟩, ⟨hk3.2.trans HN2.out⟩⟩, by simp [intOf]; omega⟩
        · gi_wp2
          refine bodyPost_ret (results_none rfl _ _ _) rfl ?_
          exact ⟨⟨_, rfl⟩, .inr ⟨_, by rw [← sel_succ_yes l0 nm k Hx.out hk (of_decide_eq_true Hbb.out.symm)]; exact sel_pre _ _ _, hJ3⟩⟩
      | false =>
        gi_wp2_with (refine ⟨trivial, ?_⟩; gi_at_call 94; (with_reducible refine (callsIn_wide.2 (text_Same.calls _ _ _ _ HS.out)).mono ?_); rintro e2 w2 ⟨rfl, hb2⟩; have HI2 : Aside0 (J (headSel (l0.take k) nm) w2) := ⟨HJ.out _ _ _ none HI.out ((World.grownBy_alloc wr _ none).trans (grown_of_below hb2 none)) (fun _ h => by cases h)⟩; have HN2 : Aside0 (w2.heap[Bn]? = some (.cells #[.string nm] 9 (0, 0))) := ⟨blk_below (blk_alloc HN.out _) hb2⟩; have HB2 : Aside0 (Below ws.heap.size ws w2) := ⟨(HB.out.alloc HB.out.size _).trans (hb2.mono (Nat.le_trans HB.out.size (by simp)))⟩; clear hb2)
        refine ⟨fun _ h => (by cases h), ?_⟩
        gi_wp2
        exact ⟨⟨x + 1, k + 1, rfl, ⟨by have := Hx.out; omega⟩, by omega, by omega, ⟨by rw [sel_succ_no l0 nm k Hx.out hk (of_decide_eq_false Hbb.out.symm)]; exact HI2.out⟩, HB2, HN2⟩, by simp [intOf]; omega⟩
    · have hxe : x = l0.length := by omega
      have hke : k = l0.length := by have := Hx.out; omega
      have hd : decide (x < (l0.length : Int)) = false := decide_eq_false hlt
      have HI2 : Aside0 (J (headSel l0 nm) wr) := ⟨by have := HI.out; rw [hke, List.take_length] at this; exact this⟩
      clear hxe hke
      gi_wp2
      go_end0
      exact ⟨⟨_, rfl⟩, .inl (by first | exact HI2.out | exact ⟨_, rfl, HI2.out⟩)⟩

theorem vals_stops (n : Nat) (hn : 1 ≤ n) (Bm Bn : Nat) (A0 : Option Addr) (c0 : Nat) (l0 : List S41) (a1 : ByteArray) (a2 : Bool) (nm : ByteArray) (hok : headSelOk l0 nm) (ws w0 : World) (hv : ValAt ws w0 Bm Bn A0 c0 l0 a1 a2 nm) :
    SeqStopsK Fence.wide n Tryd.prog 93 #[.pointer (some ⟨Bm, 0, none⟩), .pointer (some ⟨Bn, 0, none⟩)] (fun x : ByteArray => #[Value.string x]) (KeepV ws.heap.size Bn) (fun ys => ys = headSel l0 nm) (fun pre => pre <+: headSel l0 nm) (headSel l0 nm).length w0 :=
  fun l J Jx W hW hJ _ hY h0 => vals_in n hn l Bm Bn A0 c0 l0 a1 a2 nm hok J Jx ws W hJ hY (hv.below hW) h0
set_option maxHeartbeats 1000000 in
theorem vals_made (A0 : Option Addr) (c0 : Nat) (l0 : List S41) (a1 : ByteArray) (a2 : Bool) (nm : ByteArray) (ws w : World) (hr0 : Kd.C k41 ws A0 l0.length l0) (hb0 : Below ws.heap.size ws w) (hc0 : l0.length ≤ c0) :
    Calls Tryd.prog 65 #[.agg #[.slice A0 l0.length c0, .string a1, .bool a2], .string nm] w fun e w' => ∃ Bm Bn : Nat, e = .returned (.func (.func 93) #[] #[.pointer (some ⟨Bm, 0, none⟩), .pointer (some ⟨Bn, 0, none⟩)]) ∧ ValAt ws w' Bm Bn A0 c0 l0 a1 a2 nm ∧ w.heap.size ≤ Bn ∧ Below w.heap.size w w' := by
  have HB0 := Aside0.mk hb0
  clear hb0
  go_enter Tryd.func65, Tryd.ntmps65
  go_wp2
  go_ret
  have hb : Below w.heap.size w ((w.alloc (.cells #[.slice A0 l0.length c0, .string a1, .bool a2] 24)).alloc (.cells #[.string nm] 9)) := below_alloc (below_alloc (Below.refl _ _) _) _
  exact ⟨_, _, rfl, ⟨blk_alloc (blk_new _ _) _, by have := blk_new (w.alloc (.cells #[.slice A0 l0.length c0, .string a1, .bool a2] 24)) (.cells #[.string nm] 9); simpa using this, hr0, hc0, HB0.out.trans (hb.mono HB0.out.size)⟩, by simp, hb⟩
end

section
open Go.Shelf
attribute [local go_sem] Oper.semAt_some
set_option maxRecDepth 100000 in
set_option maxHeartbeats 2000000 in
theorem appendSeq_in (A0 : Option Addr) (c0 : Nat) (l0 : List S41) (a1 : ByteArray) (a2 : Bool) (nm : ByteArray) (hok : headSelOk l0 nm) (ws w : World) (Bm Bn : Nat) (hv : ValAt ws w Bm Bn A0 c0 l0 a1 a2 nm) :
    CallsIn Fence.wide 9 Tryd.prog 92 #[.slice none 0 0, .func (.func 93) #[] #[.pointer (some ⟨Bm, 0, none⟩), .pointer (some ⟨Bn, 0, none⟩)]] w fun e w' => ∃ v, e = .returned v ∧ Kd.R Kd.string 9 w' w.heap.size (fun _ => True) v (headSel l0 nm) ∧ Below w.heap.size w w' := by
  have hl9 : (headSel l0 nm).length ≤ 1000000000000 := Nat.le_trans (by unfold headSel; rw [List.length_map]; exact List.length_filter_le _ _) hok.2.2
  have HK := Aside0.mk hok
  have HL9 := Aside0.mk hl9
  have HV := Aside0.mk hv
  clear hok hv hl9
  obtain ⟨i0, hi, hz0, hz1, hz2⟩ := info_parts info9
  refine callsIn_of_wp_marks Tryd.func92 rfl trivial ?_ rfl
  simp only [Tryd.ntmps92, List.size_toArray, List.length_cons, List.length_nil, Nat.reduceAdd, Nat.reduceSub, Array.replicate_succ, Array.replicate_zero, List.push_toArray, List.append_toArray, List.nil_append, List.cons_append]
  gi_wp2_with fail
  have bO := Boxed.new w 37 (.slice none 0 0)
  have hB0 : Below w.heap.size w (w.alloc (.cells #[.slice none 0 0] 37)) := (Below.refl _ w).alloc (Nat.le_refl _) _
  refine wpIn_rangeFunc_ownG rfl (by omega) (gf := 93) (lb := #[.pointer (some ⟨Bm, 0, none⟩), .pointer (some ⟨Bn, 0, none⟩)]) rfl trivial (enters_of Tryd.func93 (by kernel_rfl) rfl)
    (vals_stops _ (by omega) Bm Bn A0 c0 l0 a1 a2 nm HK.out ws _ (HV.out.below hB0)) KeepV.t (KeepV.b (Nat.le_trans HV.out.b.size (by simp)) (by have := blk_lt HV.out.n; simp; omega)) (Below.refl _ _) (fun _ => rfl)
    (fun pre W => (∃ v, Boxed W w.heap.size 37 v ∧ W.ownsRow w.heap.size 9 1 v pre.length (pre.map Value.string) ∧ True) ∧ Below w.heap.size w W)
    (fun _ _ _ => False)
    (OwnFrom.and (Own.from (holdsRow_own w.heap.size w.heap.size 37 9 1 (fun pre : List ByteArray => pre.length) (fun pre => pre.map Value.string) (fun pre v => True)) _) (ownFrom_below (Nat.le_refl _) (by simp)))
    (fun _ _ _ _ _ hs _ _ => hs)
    ⟨⟨_, bO, World.ownsRow_nil _ _ _ _, trivial⟩, hB0⟩
    (fun x => { tmps := #[.slice none 0 0, .func (.func 93) #[] #[.pointer (some ⟨Bm, 0, none⟩), .pointer (some ⟨Bn, 0, none⟩)], .pointer (some ⟨w.heap.size, 0, none⟩), undef, .slice none 0 0, .string x, .func (.func 93) #[] #[.pointer (some ⟨Bm, 0, none⟩), .pointer (some ⟨Bn, 0, none⟩)], .string x, undef, undef, undef, undef, undef], defers := [] }) ?assign ?body ?done ?stop
  case assign =>
    intro l x W K hK
    gi_wp2
    exact hK
  case body =>
    rintro l pre x W ⟨⟨v, hv, hrow, _⟩, hB⟩ hlt
    have hc := hv.cell
    have hp : pre.length ≤ 1000000000000 := by have := HL9.out; omega
    clear hlt
    gi_wp2_with (gi_at_builtin; refine wpListIn_append_own _ rfl _ _ 37 rfl w.heap.size 9 i0 (.string ⟨#[]⟩) 1 16 Tryd.underlying37 hi hz0 hz1 hz2 rfl (by decide) _ _ _ rfl (hrow.alloc _) ⟨W.heap.size, 0, none⟩ 1 1 [.string x] rfl rfl (cell_one_new _ _ _) (by simp [Value.oneCell']) (by simp only [maxLen]; omega) (by omega) (by have := hB.size; simp; omega) ?_; intro v' w1 hown' hgrow _; obtain ⟨g', cap', rfl⟩ := ownsRow_succ hown'; obtain ⟨hv1, hv2, hr2, hk2, hb2⟩ := hv.appended (by decide) hrow hB.size (Nat.le_refl _) hown' hgrow; have hc1 := hv1.cell; have hf1 := hv1.frozen)
    exact ⟨hk2.from _, ⟨hb2.mono HV.out.b.size, hb2.block Bn (blk_lt HV.out.n)⟩, ⟨_, hv2, by simpa using hr2, trivial⟩, hB.trans hb2⟩
  case done =>
    rintro D ys W hD rfl ⟨⟨v, hv, hrow, _⟩, hB⟩ hK
    have hc := hv.cell
    gi_wp2
    refine ⟨by simp, .inl ⟨_, _, rfl, run_takeDeferred hK, ?_⟩⟩
    exact ⟨_, results_tmp rfl _ _ _, v, rfl, Kd.R_of_own (ownsRow_putObj hrow _ hK rfl) (fun _ _ => trivial), hB.trans (belowK_b (w := w) (Nat.le_refl _) W D _ _ (by simp at hD; omega) hK rfl rfl)⟩
  case stop =>
    rintro D c pre W _ _ h _
    exact h.elim
set_option maxRecDepth 100000 in
set_option maxHeartbeats 2000000 in
theorem collect_calls (A0 : Option Addr) (c0 : Nat) (l0 : List S41) (a1 : ByteArray) (a2 : Bool) (nm : ByteArray) (hok : headSelOk l0 nm) (ws w : World) (Bm Bn : Nat) (hv : ValAt ws w Bm Bn A0 c0 l0 a1 a2 nm) :
    Calls Tryd.prog 64 #[.func (.func 93) #[] #[.pointer (some ⟨Bm, 0, none⟩), .pointer (some ⟨Bn, 0, none⟩)]] w fun e w' => ∃ v, e = .returned v ∧ Kd.R Kd.string 9 w' w.heap.size (fun _ => True) v (headSel l0 nm) ∧ Below w.heap.size w w' := by
  have HK := Aside0.mk hok
  have HV := Aside0.mk hv
  clear hok hv
  go_enter Tryd.func64, Tryd.ntmps64
  go_wp2_with (go_at_call 92; (with_reducible refine (callsIn_wide.1 (appendSeq_in A0 c0 l0 a1 a2 nm HK.out ws _ Bm Bn HV.out)).mono ?_); rintro e w2 ⟨v, rfl, hr, hb⟩)
  go_ret
  exact ⟨v, rfl, hr, hb⟩
set_option maxRecDepth 100000 in
set_option maxHeartbeats 2000000 in
theorem find_calls (A0 : Option Addr) (c0 : Nat) (l0 : List S41) (a1 : ByteArray) (a2 : Bool) (nm : ByteArray) (hok : headSelOk l0 nm) (w : World) (hr0 : Kd.C k41 w A0 l0.length l0) (hc0 : l0.length ≤ c0) :
    Calls Tryd.prog 28 #[.agg #[.slice A0 l0.length c0, .string a1, .bool a2], .string nm] w fun e w' => ∃ v, e = .returned v ∧ Kd.R Kd.string 9 w' w.heap.size (fun _ => True) v (headSel l0 nm) ∧ Below w.heap.size w w' := by
  have HK := Aside0.mk hok
  have HC := Aside0.mk hc0
  have HR := Aside0.mk hr0
  clear hok hr0 hc0
  go_enter Tryd.func28, Tryd.ntmps28
  go_wp2_with (first | (go_at_call 65; (with_reducible refine (vals_made A0 c0 l0 a1 a2 nm w _ HR.out (below_alloc (Below.refl _ _) _) HC.out).mono ?_); rintro e w2 ⟨Bm, Bn, rfl, hv, hz, hb⟩; have HV := Aside0.mk hv; have HB := Aside0.mk hb; clear hv hz hb) | (go_at_call 64; (with_reducible refine (collect_calls A0 c0 l0 a1 a2 nm HK.out w _ Bm Bn HV.out).mono ?_); rintro e w3 ⟨v, rfl, hr, hb3⟩))
  go_ret
  exact ⟨v, rfl, Kd.R_lower hr HV.out.b.size, HV.out.b.trans (hb3.mono HV.out.b.size)⟩
end
def head_Message_Find.f (l0 : List S41) (_a1 : ByteArray) (_a2 : Bool) (a3 : ByteArray) : Option (List ByteArray) := if headSelOk l0 a3 then some (headSel l0 a3) else none
theorem head_Message_Find.calls (A0 : Option Addr) (c0 : Nat) (l0 : List S41) (a1 : ByteArray) (a2 : Bool) (a3 : ByteArray) (r : List ByteArray) (w : World) (hr0 : Kd.C k41 w A0 l0.length l0) (hc0 : l0.length ≤ c0) (h : head_Message_Find.f l0 a1 a2 a3 = some r) :
    Calls Tryd.prog 28 #[.agg #[.slice A0 l0.length c0, .string a1, .bool a2], .string a3] w fun e w' => ∃ v0_ : Value, e = .returned (v0_) ∧ Kd.R Kd.string 9 w' w.heap.size (fun _ => True) v0_ r ∧ Below w.heap.size w w' := by
  unfold head_Message_Find.f at h
  by_cases hok : headSelOk l0 a3
  · rw [if_pos hok] at h
    obtain rfl := Option.some.inj h
    exact find_calls A0 c0 l0 a1 a2 a3 hok w hr0 hc0
  · rw [if_neg hok] at h; cases h


/-! ### head_Message_Count: function 29 (by hand) -/
section
open Go.Shelf
attribute [local go_sem] Oper.semAt_some
set_option maxRecDepth 100000 in
set_option maxHeartbeats 2000000 in
theorem count_in (A0 : Option Addr) (c0 : Nat) (l0 : List S41) (a1 : ByteArray) (a2 : Bool) (nm : ByteArray) (hok : headSelOk l0 nm) (w : World) (hr0 : Kd.C k41 w A0 l0.length l0) (hc0 : l0.length ≤ c0) :
    CallsIn Fence.wide 9 Tryd.prog 29 #[.agg #[.slice A0 l0.length c0, .string a1, .bool a2], .string nm] w fun e w' => e = .returned (.int .i64 (headSel l0 nm).length) ∧ Below w.heap.size w w' := by
  have hl9 : (headSel l0 nm).length ≤ 1000000000000 := Nat.le_trans (by unfold headSel; rw [List.length_map]; exact List.length_filter_le _ _) hok.2.2
  have HK := Aside0.mk hok
  have HL9 := Aside0.mk hl9
  have HC := Aside0.mk hc0
  have HR := Aside0.mk hr0
  clear hok hr0 hc0 hl9
  refine callsIn_of_wp_marks Tryd.func29 rfl trivial ?_ rfl
  simp only [Tryd.ntmps29, List.size_toArray, List.length_cons, List.length_nil, Nat.reduceAdd, Nat.reduceSub, Array.replicate_succ, Array.replicate_zero, List.push_toArray, List.append_toArray, List.nil_append, List.cons_append]
  gi_wp2_with (refine ⟨trivial, ?_⟩; gi_at_call 65; (with_reducible refine (callsIn_wide.2 (vals_made A0 c0 l0 a1 a2 nm w _ HR.out (below_alloc (below_alloc (Below.refl _ _) _) _) HC.out)).mono ?_); rintro e w2 ⟨Bm, Bn, rfl, hv, hz, hb⟩; have HBn := Aside0.mk hz; clear hz; have HV := Aside0.mk hv; have HB := Aside0.mk hb; clear hv hb)
  have HC2 : Aside0 (w2.cell? ⟨w.heap.size + 1, 0, none⟩ = some (.int .i64 ([] : List ByteArray).length)) := ⟨by
    have := blk_cell (blk_below (blk_new (w.alloc (Obj.cells #[Value.slice A0 l0.length c0, Value.string a1, Value.bool a2] 24)) (Obj.cells #[Value.int IntKind.i64 0] 3)) HB.out) 0
    simpa using this⟩
  have HF2 : Aside0 (w2.frozen? ⟨w.heap.size + 1, 0, none⟩ = false) := ⟨by
    have := blk_frozen (blk_below (blk_new (w.alloc (Obj.cells #[Value.slice A0 l0.length c0, Value.string a1, Value.bool a2] 24)) (Obj.cells #[Value.int IntKind.i64 0] 3)) HB.out) 0
    simpa using this⟩
  have HW2 : Aside0 (Below w.heap.size w w2) := ⟨(below_alloc (below_alloc (Below.refl _ _) _) _).trans (HB.out.mono (by simp; omega))⟩
  have HZ : Aside0 (w.heap.size + 2 ≤ w2.heap.size) := ⟨Nat.le_trans (by simp) HB.out.size⟩
  refine wpIn_rangeFunc_ownF rfl (by omega) (gf := 93) (lb := #[.pointer (some ⟨Bm, 0, none⟩), .pointer (some ⟨Bn, 0, none⟩)]) rfl trivial (enters_of Tryd.func93 (by kernel_rfl) rfl)
    (vals_stops _ (by omega) Bm Bn A0 c0 l0 a1 a2 nm HK.out w w2 HV.out) KeepV.t (KeepV.b HW2.out.size (blk_lt HV.out.n)) (Below.refl _ _) (fun _ => rfl)
    (fun pre W => (W.cell? ⟨w.heap.size + 1, 0, none⟩ = some (.int .i64 pre.length) ∧ W.frozen? ⟨w.heap.size + 1, 0, none⟩ = false) ∧ Below w.heap.size w W)
    (fun _ _ _ => False)
    (OwnFrom.and (Own.from (fun s A B row hs hg hr => ⟨cell_kept hs.1 hg hr, (frozen_kept hs.1 hg hr).trans hs.2⟩) _) (ownFrom_below (Nat.le_refl _) HW2.out.size))
    (fun _ _ _ _ _ hs _ _ => hs)
    ⟨⟨HC2.out, HF2.out⟩, HW2.out⟩
    (fun x => { tmps := #[.agg #[.slice A0 l0.length c0, .string a1, .bool a2], .string nm, .pointer (some ⟨w.heap.size, 0, none⟩), undef, .int .i64 0, .pointer (some ⟨w.heap.size + 1, 0, none⟩), .agg #[.slice A0 l0.length c0, .string a1, .bool a2], .string nm, .func (.func 93) #[] #[.pointer (some ⟨Bm, 0, none⟩), .pointer (some ⟨Bn, 0, none⟩)], .string x, undef, undef, undef], defers := [] }) ?assign ?body ?done ?stop
  case assign =>
    intro l x W K hK
    gi_wp2
    simpa using hK
  case body =>
    rintro l pre x W ⟨⟨hc, hf⟩, hB⟩ hlt
    have hp : pre.length ≤ 1000000000000 := by have := HL9.out; omega
    clear hlt
    gi_wp2
    have hne : Bn ≠ w.heap.size + 1 := by have := HBn.out; simp at this; omega
    exact ⟨KeepsOthers.setCell _ _ _, ⟨(Below.refl w.heap.size W).setCell (p := ⟨w.heap.size + 1, 0, none⟩) (by simp) _, Below.heap_setCell _ _ _ _ hne⟩, ⟨by rw [List.length_append]; exact World.cell?_setCell_same' _ _ _ (by rw [hc]; rfl), by rw [World.frozen?_setCell]; exact hf⟩, hB.setCell (p := ⟨w.heap.size + 1, 0, none⟩) (by simp) _⟩
  case done =>
    rintro D ys W hD rfl ⟨⟨hc, _⟩, hB⟩ hK
    gi_wp2
    refine ⟨by simp, .inl ⟨_, _, rfl, run_takeDeferred hK, ?_⟩⟩
    exact ⟨_, results_tmp rfl _ _ _, rfl, hB.trans (belowK_b (w := w) (Nat.le_refl _) W D _ _ (by have := HZ.out; omega) hK rfl rfl)⟩
  case stop =>
    rintro D c pre W _ _ h _
    exact h.elim
end
def head_Message_Count.f (l0 : List S41) (_a1 : ByteArray) (_a2 : Bool) (a3 : ByteArray) : Option Int := if headSelOk l0 a3 then some (headSel l0 a3).length else none
theorem head_Message_Count.calls (A0 : Option Addr) (c0 : Nat) (l0 : List S41) (a1 : ByteArray) (a2 : Bool) (a3 : ByteArray) (r : Int) (w : World) (hr0 : Kd.C k41 w A0 l0.length l0) (hc0 : l0.length ≤ c0) (h : head_Message_Count.f l0 a1 a2 a3 = some r) :
    Calls Tryd.prog 29 #[.agg #[.slice A0 l0.length c0, .string a1, .bool a2], .string a3] w fun e w' => e = .returned (.int .i64 r) ∧ Below w.heap.size w w' := by
  unfold head_Message_Count.f at h
  by_cases hok : headSelOk l0 a3
  · rw [if_pos hok] at h
    obtain rfl := Option.some.inj h
    exact callsIn_wide.1 (count_in A0 c0 l0 a1 a2 a3 hok w hr0 hc0)
  · rw [if_neg hok] at h; cases h


/-! ### head_Message_Text: function 25 (by hand) -/
def headPre (l0 : List S41) (k : Nat) : List UInt8 := ((l0.take k).map (·.f2.data.toList)).flatten
def headText (l0 : List S41) (a1 : ByteArray) (a2 : Bool) : List UInt8 := headPre l0 l0.length ++ (if a2 = true then [] else 13 :: 10 :: a1.data.toList)
theorem headPre_succ (l0 : List S41) (k : Nat) (h : k < l0.length) : headPre l0 (k + 1) = headPre l0 k ++ (rd_T41 l0 (k : Int)).f2.data.toList := by
  unfold headPre rd_T41
  rw [List.take_succ_eq_append_getElem h, List.map_append, List.flatten_append, Int.toNat_natCast, List.getD_eq_getElem?_getD, List.getElem?_eq_getElem h]
  simp
theorem headPre_le (l0 : List S41) (k : Nat) : (headPre l0 k).length ≤ (headPre l0 l0.length).length := by
  unfold headPre
  rw [List.take_length]
  conv => rhs; rw [← List.take_append_drop k l0]
  rw [List.map_append, List.flatten_append, List.length_append]
  omega
def head_Message_Text.f (l0 : List S41) (a1 : ByteArray) (a2 : Bool) : Option ByteArray := if (headText l0 a1 a2).length ≤ 140737488355328 ∧ a1.size ≤ 140737488355328 ∧ l0.length ≤ 140737488355328 then some ⟨(headText l0 a1 a2).toArray⟩ else none
theorem text_next {l0 : List S41} {B b k : Nat} {x : Int} {w : World} (hx : x = (k : Nat)) (hk : k < l0.length) (h : Lib.BuilderAtF 96 5 B b (.pointer (some ⟨b, 0, none⟩)) (Lib.byteCells (headPre l0 k) ++ Lib.strCells (rd_T41 l0 x).f2) w) :
    Lib.IsBuilderF 96 5 B b (Lib.byteCells (headPre l0 (k + 1))) w := by
  subst hx
  rw [headPre_succ l0 k hk, Lib.byteCells_append, ← Lib.strCells_eq]
  exact .inr h
set_option maxHeartbeats 1000000 in
set_option maxRecDepth 100000 in
theorem head_Message_Text.calls (A0 : Option Addr) (c0 : Nat) (l0 : List S41) (a1 : ByteArray) (a2 : Bool) (r : ByteArray) (w : World) (hr0 : Kd.C k41 w A0 l0.length l0) (hc0 : l0.length ≤ c0) (h : head_Message_Text.f l0 a1 a2 = some r) :
    Calls Tryd.prog 25 #[.agg #[.slice A0 l0.length c0, .string a1, .bool a2]] w fun e w' => e = .returned (.string r) ∧ Below w.heap.size w w' := by
  unfold head_Message_Text.f at h
  by_cases hsz : (headText l0 a1 a2).length ≤ 140737488355328 ∧ a1.size ≤ 140737488355328 ∧ l0.length ≤ 140737488355328
  · rw [if_pos hsz] at h
    obtain rfl := Option.some.inj h
    clear h
    obtain ⟨hs1, hs2, hs3⟩ := hsz
    have HS := Aside0.mk hs1
    clear hs1
    have HR := Aside0.mk hr0
    clear hr0
    have HC := Aside0.mk hc0
    clear hc0
    go_enter Tryd.func25, Tryd.ntmps25
    go_wp2
    obtain ⟨W, hW⟩ : ∃ W, W = (w.alloc (Obj.cells #[Value.slice A0 l0.length c0, Value.string a1, Value.bool a2] 24)).alloc (Obj.cells #[Value.pointer none, Value.slice none 0 0] 96) := ⟨_, rfl⟩
    obtain ⟨g, hg⟩ : ∃ g, g = w.heap.size := ⟨_, rfl⟩
    have HI : Aside0 (Lib.IsBuilderF 96 5 (g + 1) (g + 1) (Lib.byteCells (headPre l0 0)) W) := ⟨by
      have := Lib.IsBuilderF.of (Lib.fresh_isBuilder 96 5 (w.alloc (Obj.cells #[Value.slice A0 l0.length c0, Value.string a1, Value.bool a2] 24)))
      rw [hW, hg]
      simpa [headPre, Lib.byteCells] using this⟩
    have HG : Aside0 (W.heap[g]? = some (.cells #[Value.slice A0 l0.length c0, Value.string a1, Value.bool a2] 24 (0, 0))) := ⟨by
      rw [hW, hg]; exact blk_alloc (blk_new _ _) _⟩
    have HB : Aside0 (Below w.heap.size w W) := ⟨by
      rw [hW]; exact below_alloc (below_alloc (Below.refl _ _) _) _⟩
    have HZ : Aside0 (g + 1 ≤ W.heap.size) := ⟨by rw [hW, hg]; simp⟩
    have Hg := Aside0.mk hg
    rw [← hW, ← hg]
    clear hW hg
    go_loopw [9] (fun v9 w' => ∃ (x : Int) (k : Nat), v9 = .int .i64 x ∧ Aside0 (x = (k : Nat)) ∧ 0 ≤ x ∧ x ≤ l0.length ∧ Aside0 (Lib.IsBuilderF 96 5 (g + 1) (g + 1) (Lib.byteCells (headPre l0 k)) w') ∧ Aside0 (w'.heap[g]? = some (.cells #[Value.slice A0 l0.length c0, Value.string a1, Value.bool a2] 24 (0, 0))) ∧ Aside0 (Below w.heap.size w w') ∧ Aside0 (g + 1 ≤ w'.heap.size)) (fun v9 _ => l0.length - (intOf v9).toNat)
    case atStart => exact ⟨0, 0, rfl, ⟨rfl⟩, Int.le_refl _, by omega, HI, HG, HB, HZ⟩
    case round =>
      clear HI HG HB HZ
      obtain ⟨x, k, rfl, Hx, hx0, hx1, HI, HG, HB, HZ⟩ := hrel
      by_cases hlt : x < l0.length
      · have hk : k < l0.length := by have := Hx.out; omega
        obtain ⟨ad, e, h0, h1, h2⟩ := at_T41 HR.out x hx0 hlt
        cases e
        replace h0 := pw_cell_below HB.out h0
        replace h1 := pw_cell_below HB.out h1
        replace h2 := pw_cell_below HB.out h2
        have HN : Aside0 ((Lib.byteCells (headPre l0 k)).length + (rd_T41 l0 x).f2.size ≤ 140737488355328) := ⟨by
          have a := headPre_succ l0 k hk
          have b := headPre_le l0 (k + 1)
          have c := HS.out
          unfold headText at c
          rw [a] at b
          have := Hx.out
          subst this
          rw [List.length_append] at b c
          rw [show (rd_T41 l0 ↑k).f2.size = (rd_T41 l0 ↑k).f2.data.toList.length from (data_length _).symm]
          simp only [Lib.byteCells, List.length_map]
          omega⟩
        have hd : decide (x < (l0.length : Int)) = true := decide_eq_true hlt
        go_wp2_with (go_at_call 60; (with_reducible refine (Tryd.Builder_WriteString_f (g + 1) (g + 1) (Lib.byteCells (headPre l0 k)) _ _ (HI.out.alloc _) HN.out (by have := HZ.out; simp; omega)).mono ?_); rintro e2 w2 ⟨rfl, hI2, hb2⟩)
        exact ⟨⟨x + 1, k + 1, rfl, ⟨by have := Hx.out; omega⟩, by omega, by omega, ⟨text_next Hx.out hk hI2⟩, ⟨(hb2.block g (by omega)).trans (blk_alloc HG.out _)⟩, ⟨(below_alloc HB.out _).trans (hb2.mono (by have := Hg.out; omega))⟩, ⟨Nat.le_trans (by have := HZ.out; simp; omega) hb2.size⟩⟩, by simp [intOf]; omega⟩
      · have hx : x = l0.length := by omega
        subst hx
        have hk : k = l0.length := by have := Hx.out; omega
        subst hk
        clear Hx hx0 hx1
        have hd : decide ((l0.length : Int) < (l0.length : Int)) = false := by simp
        have hc0 := (blk_cell HG.out 0).trans rfl
        have hc1 := (blk_cell HG.out 1).trans rfl
        have hc2 := (blk_cell HG.out 2).trans rfl
        cases a2 with
        | true =>
          have HT : Aside0 (headText l0 a1 true = headPre l0 l0.length) := ⟨by simp [headText]⟩
          go_wp2_with (go_at_call 61; (with_reducible refine (Tryd.Builder_String_any_f (g + 1) (g + 1) (headPre l0 l0.length) _ HI.out HZ.out).mono ?_); rintro e2 w2 ⟨rfl, hI2, hb2⟩)
          go_ret
          exact ⟨by rw [HT.out]; rfl, HB.out.trans (hb2.mono (by have := Hg.out; omega))⟩
        | false =>
          have HT : Aside0 (headText l0 a1 false = headPre l0 l0.length ++ 13 :: 10 :: a1.data.toList) := ⟨by simp [headText]⟩
          have HN : Aside0 ((Lib.byteCells (headPre l0 l0.length)).length + ((⟨#[13, 10]⟩ : ByteArray) ++ a1).size ≤ 140737488355328) := ⟨by
            have c := HS.out
            rw [HT.out, List.length_append, List.length_cons, List.length_cons, data_length] at c
            rw [ByteArray.size_append, Lib.byteCells, List.length_map]
            have : (⟨#[13, 10]⟩ : ByteArray).size = 2 := rfl
            omega⟩
          go_wp2_with (go_at_call 60; (with_reducible refine (Tryd.Builder_WriteString_f (g + 1) (g + 1) (Lib.byteCells (headPre l0 l0.length)) _ _ HI.out HN.out HZ.out).mono ?_); rintro e2 w2 ⟨rfl, hI2, hb2⟩)
          have HI2 : Aside0 (Lib.IsBuilderF 96 5 (g + 1) (g + 1) (Lib.byteCells (headText l0 a1 false)) w2) := ⟨by
            rw [HT.out, Lib.byteCells_append]
            have e : Lib.strCells ((⟨#[13, 10]⟩ : ByteArray) ++ a1) = Lib.byteCells (13 :: 10 :: a1.data.toList) := by
              rw [Lib.strCells_eq, ByteArray.data_append, Array.toList_append]; rfl
            rw [e] at hI2
            exact .inr hI2⟩
          clear hI2
          have HZ2 : Aside0 (g + 1 ≤ w2.heap.size) := ⟨Nat.le_trans HZ.out hb2.size⟩
          go_wp2_with (go_at_call 61; (with_reducible refine (Tryd.Builder_String_any_f (g + 1) (g + 1) (headText l0 a1 false) _ HI2.out HZ2.out).mono ?_); rintro e3 w3 ⟨rfl, hI3, hb3⟩)
          go_ret
          exact ⟨rfl, HB.out.trans ((hb2.trans hb3).mono (by have := Hg.out; omega))⟩
  · rw [if_neg hsz] at h; cases h


/-! ### head_Message_with: function 68 -/
def head_Message_with.f (l0_0 : List (S41)) (a0_1 : ByteArray) (a0_2 : Bool) (l1 : List (S41)) : Option ((List (S41)) × ByteArray × Bool × Int) := (head_Message_Text.f l1 a0_1 a0_2).bind fun t210 => (if (t210.size : Int) > 8192 then (some (([] : List (S41)), (⟨#[]⟩ : ByteArray), false, 3)) else (some (l1, a0_1, a0_2, 0)))
set_option maxHeartbeats 8000000 in
set_option maxRecDepth 100000 in
theorem head_Message_with.calls (A0_0 : Option Addr) (c0_0 : Nat) (l0_0 : List (S41)) (a0_1 : ByteArray) (a0_2 : Bool) (P1_ : Nat → Prop) (u9000_ : Value) (l1 : List (S41)) (r1 : List (S41)) (r2 : ByteArray) (r3 : Bool) (r4 : Int) (w0 w : World) (hB : Below w0.heap.size w0 w) (hr0_0 : ∀ W_, Kept w W_ (fun k_ => P1_ k_) → Kd.C k41 W_ A0_0 l0_0.length l0_0) (hc0_0 : l0_0.length ≤ c0_0) (ho1 : Kd.R k41 41 w w0.heap.size P1_ u9000_ l1) (h : head_Message_with.f l0_0 a0_1 a0_2 l1 = some (r1, r2, r3, r4)) :
  Calls Tryd.prog 68 #[.agg #[.slice A0_0 l0_0.length c0_0, .string a0_1, .bool a0_2], u9000_] w fun e w' => ∃ v0_ : Value, e = .returned (.tuple #[.agg #[v0_, .string r2, .bool r3], .int .i64 r4]) ∧ Kd.R k41 41 w' w0.heap.size (fun k_ => (P1_ k_ ∨ w.heap.size ≤ k_)) v0_ r1 ∧ Below w0.heap.size w0 w' ∧ Kept w w' (fun k_ => P1_ k_) := by
 have hu24 := Tryd.underlying24
 have HR0_0 := Aside0.mk hr0_0
 have HC0_0 := Aside0.mk hc0_0
 clear hr0_0 hc0_0
 have HO1 := Aside0.mk (show Kd.R k41 41 w w0.heap.size (fun k_ => (P1_ k_ ∨ w.heap.size ≤ k_)) u9000_ l1 from Kd.R_mono ho1 (fun k_ hk => (.inl hk)))
 have HK := Aside0.mk (Kept.refl w (fun k_ => P1_ k_))
 have HW0 := Aside0.mk hB.size
 have HB := Aside0.mk hB
 clear hB
 have H : ((head_Message_Text.f l1 a0_1 a0_2).bind fun t210 => (if (t210.size : Int) > 8192 then (some (([] : List (S41)), (⟨#[]⟩ : ByteArray), false, 3)) else (some (l1, a0_1, a0_2, 0)))) = some (r1, r2, r3, r4) := h
 clear h
 replace H := Option.bind_eq_some_iff.mp H
 obtain ⟨t210, A30, H⟩ := H
 replace H : (if (t210.size : Int) > 8192 then (some (([] : List (S41)), (⟨#[]⟩ : ByteArray), false, 3)) else (some (l1, a0_1, a0_2, 0))) = some (r1, r2, r3, r4) := H
 have A3 := Aside0.mk A30
 clear A30
 by_cases c4 : (t210.size : Int) > 8192
 ·rw [if_pos c4] at H
  have c4b0 : decide (8192 < (t210.size : Int)) = true := decide_eq_true c4
  have c4b1 : decide (8192 < t210.size) = true := decide_eq_true (by omega)
  clear c4
  simp only [Option.some.injEq, Prod.mk.injEq] at H
  obtain ⟨rfl, rfl, rfl, rfl⟩ := H
  go_enter Tryd.func68, Tryd.ntmps68
  go_wp2_with (first | ((with_reducible refine gate_dst (N := 2) rfl ?_); refine box_event ?hg (N := 2) ?hd (cs := #[.slice A0_0 l0_0.length c0_0, .string a0_1, .bool a0_2]) (t := 24) ?hr ?_; (case hd => rfl); (case hg => rfl); (case hr => first | (go_simp; done) | (go_simp; rfl)); intro gb208 hg w5 hbox hb; have n0_ := Aside0.mk (Kd.R_below (kr HO1.out) hb); have n1_ := Aside0.mk (Kept.below (S := (fun k_ => P1_ k_)) (by repeat (first | (with_reducible first | exact HK.out | apply Kept.alloc | apply Kept.drewN | apply Kept.drew) | exact HK.out)) hb); have n2_ := Aside0.mk (below_step bl hb); have n3_ := Aside0.mk (hbox); have n4_ := Aside0.mk ((by rw [hg]; exact (by first | exact HK.out.1 | exact (show Kept w _ (fun k_ => P1_ k_) from by repeat (first | (with_reducible first | exact HK.out | apply Kept.alloc | apply Kept.drewN | apply Kept.drew) | exact HK.out)).1) : w.heap.size ≤ gb208)); have n5_ := Aside0.mk ((by rw [hg]; exact (below_size bl) : w0.heap.size ≤ gb208)); clear HO1; clear HK; clear HB; have HO1 := n0_; have HK := n1_; have HB := n2_; have BK208 := n3_; have GW208 := n4_; have GE208 := n5_; clear n0_ n1_ n2_ n3_ n4_ n5_; clear hb hbox hg) | ((with_reducible refine gate_dst (N := 4) rfl ?_); refine box_event ?hg (N := 4) ?hd (cs := #[.slice none 0 0, .string (⟨#[]⟩ : ByteArray), .bool false]) (t := 24) ?hr ?_; (case hd => rfl); (case hg => rfl); (case hr => first | (go_simp; done) | (go_simp; rfl)); intro gb209 hg w6 hbox hb; have n0_ := Aside0.mk (Kd.R_below (kr HO1.out) hb); have n1_ := Aside0.mk (kb BK208.out hb); have n2_ := Aside0.mk (Kept.below (S := (fun k_ => P1_ k_)) (by repeat (first | (with_reducible first | exact HK.out | apply Kept.alloc | apply Kept.drewN | apply Kept.drew | refine Kept.setCell ?_ (.inr GW208.out) _) | exact HK.out)) hb); have n3_ := Aside0.mk (below_step bl hb); have n4_ := Aside0.mk (hbox); have n5_ := Aside0.mk ((by rw [hg]; exact (by first | exact HK.out.1 | exact (show Kept w _ (fun k_ => P1_ k_) from by repeat (first | (with_reducible first | exact HK.out | apply Kept.alloc | apply Kept.drewN | apply Kept.drew | refine Kept.setCell ?_ (.inr GW208.out) _) | exact HK.out)).1) : w.heap.size ≤ gb209)); have n6_ := Aside0.mk ((by rw [hg]; exact (below_size bl) : w0.heap.size ≤ gb209)); have n7_ := Aside0.mk ((by rw [hg]; exact Nat.ne_of_lt (blk_lt (bk BK208.out)) : gb208 ≠ gb209)); have n8_ := Aside0.mk ((by rw [hg]; exact Nat.ne_of_gt (blk_lt (bk BK208.out)) : gb209 ≠ gb208)); clear HO1; clear BK208; clear HK; clear HB; have HO1 := n0_; have BK208 := n1_; have HK := n2_; have HB := n3_; have BK209 := n4_; have GW209 := n5_; have GE209 := n6_; have NB208_209 := n7_; have NB209_208 := n8_; clear n0_ n1_ n2_ n3_ n4_ n5_ n6_ n7_ n8_; clear hb hbox hg; obtain ⟨Ao7, co7, eo7⟩ := Kd.R_slice HO1.out; subst eo7; have hnb8 := NB208_209.out; have hnc8 := NB209_208.out; have hcz9_0 : w6.cell? ⟨gb208, 0, none⟩ = some (.slice A0_0 l0_0.length c0_0) := (blk_cell BK208.out 0).trans rfl; have hcz9_1 : w6.cell? ⟨gb208, 1, none⟩ = some (.string a0_1) := (blk_cell BK208.out 1).trans rfl; have hcz9_2 : w6.cell? ⟨gb208, 2, none⟩ = some (.bool a0_2) := (blk_cell BK208.out 2).trans rfl; have hfz9_0 := blk_frozen BK208.out 0; have hfz9_1 := blk_frozen BK208.out 1; have hfz9_2 := blk_frozen BK208.out 2) | ((with_reducible refine gate_callee (f := 25) rfl ?_); refine goesL_ (some 9) rfl rfl Tryd.func25 (by kernel_rfl) rfl #[.agg #[.slice Ao7 l1.length co7, .string a0_1, .bool a0_2]] rfl ml ?_; (with_reducible refine (head_Message_Text.calls _ _ l1 a0_1 a0_2 t210 _ ?side1 ?side2 A3.out).mono ?_); (case side1 => refine (Kd.R_reads' (e := 41) (base := w0.heap.size) (ok := fun k_ => (P1_ k_ ∨ w.heap.size ≤ k_)) (n := l1.length) (c := co7) ?_).2.2; exact (by (with_reducible repeat (first | apply Kd.R_alloc | apply Kd.R_drewN | apply Kd.R_drew)); exact (Kd.R_mono (Kd.R_far (p := ⟨gb208, 0, none⟩) (Kd.R_types HO1.out BK208.out (by decide)) (fun _ hk => hk.2) (.slice Ao7 l1.length co7)) (fun _ h_ => h_.1)))); (case side2 => exact (Kd.R_reads' HO1.out).2.1); rintro e w10 ⟨rfl, hb⟩; refine ⟨_, rfl, ?_⟩; have n0_ := Aside0.mk (Kd.R_below (by (with_reducible repeat (first | apply Kd.R_alloc | apply Kd.R_drewN | apply Kd.R_drew)); exact (Kd.R_mono (Kd.R_far (p := ⟨gb208, 0, none⟩) (Kd.R_types HO1.out BK208.out (by decide)) (fun _ hk => hk.2) (.slice Ao7 l1.length co7)) (fun _ h_ => h_.1))) hb); have n1_ := Aside0.mk (blk_below (g := gb208) (o := .cells #[.slice Ao7 l1.length co7, .string a0_1, .bool a0_2] 24 (0, 0)) (by (with_reducible repeat (first | refine blk_drewN ?_ _ | refine blk_drew ?_ | refine blk_alloc ?_ _)); refine blk_put (cs := #[.slice A0_0 l0_0.length c0_0, .string a0_1, .bool a0_2]) ?_ 0 _ rfl; (with_reducible repeat (first | refine blk_drewN ?_ _ | refine blk_drew ?_ | refine blk_alloc ?_ _)); exact BK208.out) hb); have n2_ := Aside0.mk (kb BK209.out hb); have n3_ := Aside0.mk (Kept.below (S := (fun k_ => P1_ k_)) (by repeat (first | (with_reducible first | exact HK.out | apply Kept.alloc | apply Kept.drewN | apply Kept.drew | refine Kept.setCell ?_ (.inr GW208.out) _ | refine Kept.setCell ?_ (.inr GW209.out) _) | exact HK.out)) hb); have n4_ := Aside0.mk (below_step bl hb); clear HO1; clear BK208; clear BK209; clear HK; clear HB; have HO1 := n0_; have BK208 := n1_; have BK209 := n2_; have HK := n3_; have HB := n4_; clear n0_ n1_ n2_ n3_ n4_; (try clear hb); (try clear hb2); (try clear hk); (try clear hi); have hcz11_0 : w10.cell? ⟨gb209, 0, none⟩ = some (.slice none 0 0) := (blk_cell BK209.out 0).trans rfl; have hcz11_1 : w10.cell? ⟨gb209, 1, none⟩ = some (.string (⟨#[]⟩ : ByteArray)) := (blk_cell BK209.out 1).trans rfl; have hcz11_2 : w10.cell? ⟨gb209, 2, none⟩ = some (.bool false) := (blk_cell BK209.out 2).trans rfl; have hfz11_0 := blk_frozen BK209.out 0; have hfz11_1 := blk_frozen BK209.out 1; have hfz11_2 := blk_frozen BK209.out 2))
  refine bodyPost_ret (results_ct rfl _ _ gb209 24 #[.slice none 0 0, .string (⟨#[]⟩ : ByteArray), .bool false] (0, 0) _ rfl (by (with_reducible repeat (first | refine blk_drewN ?_ _ | refine blk_drew ?_ | refine blk_alloc ?_ _)); refine blk_put (cs := #[.slice none 0 0, .string (⟨#[]⟩ : ByteArray), .bool false]) ?_ 2 _ rfl; (with_reducible repeat (first | refine blk_drewN ?_ _ | refine blk_drew ?_ | refine blk_alloc ?_ _)); refine blk_put (cs := #[.slice none 0 0, .string (⟨#[]⟩ : ByteArray), .bool false]) ?_ 1 _ rfl; (with_reducible repeat (first | refine blk_drewN ?_ _ | refine blk_drew ?_ | refine blk_alloc ?_ _)); refine blk_put (cs := #[.slice none 0 0, .string (⟨#[]⟩ : ByteArray), .bool false]) ?_ 0 _ rfl; (with_reducible repeat (first | refine blk_drewN ?_ _ | refine blk_drew ?_ | refine blk_alloc ?_ _)); exact BK209.out) Tryd.underlying24 rfl (by kernel_rfl)) rfl ?_
  exact ⟨_, by first | rfl | (simp [errW_none, errW_some] <;> rfl) | (simp [*, errW_none, errW_some] <;> rfl), by first | exact Kd.R_nil _ _ _ _ _ | exact Kd.N_nil _ _ _ _ _ | exact Kd.V_nil _ _ _ _ _ | exact Kd.Q_nil _ _ _ _ _ | exact Kd.S_nil _ _ _ _ _, by repeat (first | (with_reducible first | exact HB.out | apply below_alloc | apply pw_below_drewN | apply below_drew1 | refine below_set ?_ GE208.out | refine below_set ?_ GE209.out) | exact HB.out), by repeat (first | (with_reducible first | exact HK.out | apply Kept.alloc | apply Kept.drewN | apply Kept.drew | refine Kept.setCell ?_ (.inr GW208.out) _ | refine Kept.setCell ?_ (.inr GW209.out) _) | exact HK.out)⟩
 ·rw [if_neg c4] at H
  have c4b0 : decide (8192 < (t210.size : Int)) = false := decide_eq_false c4
  have c4b1 : decide (8192 < t210.size) = false := decide_eq_false (by omega)
  clear c4
  simp only [Option.some.injEq, Prod.mk.injEq] at H
  obtain ⟨rfl, rfl, rfl, rfl⟩ := H
  go_enter Tryd.func68, Tryd.ntmps68
  go_wp2_with (first | ((with_reducible refine gate_dst (N := 2) rfl ?_); refine box_event ?hg (N := 2) ?hd (cs := #[.slice A0_0 l0_0.length c0_0, .string a0_1, .bool a0_2]) (t := 24) ?hr ?_; (case hd => rfl); (case hg => rfl); (case hr => first | (go_simp; done) | (go_simp; rfl)); intro gb208 hg w12 hbox hb; have n0_ := Aside0.mk (Kd.R_below (kr HO1.out) hb); have n1_ := Aside0.mk (Kept.below (S := (fun k_ => P1_ k_)) (by repeat (first | (with_reducible first | exact HK.out | apply Kept.alloc | apply Kept.drewN | apply Kept.drew) | exact HK.out)) hb); have n2_ := Aside0.mk (below_step bl hb); have n3_ := Aside0.mk (hbox); have n4_ := Aside0.mk ((by rw [hg]; exact (by first | exact HK.out.1 | exact (show Kept w _ (fun k_ => P1_ k_) from by repeat (first | (with_reducible first | exact HK.out | apply Kept.alloc | apply Kept.drewN | apply Kept.drew) | exact HK.out)).1) : w.heap.size ≤ gb208)); have n5_ := Aside0.mk ((by rw [hg]; exact (below_size bl) : w0.heap.size ≤ gb208)); clear HO1; clear HK; clear HB; have HO1 := n0_; have HK := n1_; have HB := n2_; have BK208 := n3_; have GW208 := n4_; have GE208 := n5_; clear n0_ n1_ n2_ n3_ n4_ n5_; clear hb hbox hg) | ((with_reducible refine gate_dst (N := 4) rfl ?_); refine box_event ?hg (N := 4) ?hd (cs := #[.slice none 0 0, .string (⟨#[]⟩ : ByteArray), .bool false]) (t := 24) ?hr ?_; (case hd => rfl); (case hg => rfl); (case hr => first | (go_simp; done) | (go_simp; rfl)); intro gb209 hg w13 hbox hb; have n0_ := Aside0.mk (Kd.R_below (kr HO1.out) hb); have n1_ := Aside0.mk (kb BK208.out hb); have n2_ := Aside0.mk (Kept.below (S := (fun k_ => P1_ k_)) (by repeat (first | (with_reducible first | exact HK.out | apply Kept.alloc | apply Kept.drewN | apply Kept.drew | refine Kept.setCell ?_ (.inr GW208.out) _) | exact HK.out)) hb); have n3_ := Aside0.mk (below_step bl hb); have n4_ := Aside0.mk (hbox); have n5_ := Aside0.mk ((by rw [hg]; exact (by first | exact HK.out.1 | exact (show Kept w _ (fun k_ => P1_ k_) from by repeat (first | (with_reducible first | exact HK.out | apply Kept.alloc | apply Kept.drewN | apply Kept.drew | refine Kept.setCell ?_ (.inr GW208.out) _) | exact HK.out)).1) : w.heap.size ≤ gb209)); have n6_ := Aside0.mk ((by rw [hg]; exact (below_size bl) : w0.heap.size ≤ gb209)); have n7_ := Aside0.mk ((by rw [hg]; exact Nat.ne_of_lt (blk_lt (bk BK208.out)) : gb208 ≠ gb209)); have n8_ := Aside0.mk ((by rw [hg]; exact Nat.ne_of_gt (blk_lt (bk BK208.out)) : gb209 ≠ gb208)); clear HO1; clear BK208; clear HK; clear HB; have HO1 := n0_; have BK208 := n1_; have HK := n2_; have HB := n3_; have BK209 := n4_; have GW209 := n5_; have GE209 := n6_; have NB208_209 := n7_; have NB209_208 := n8_; clear n0_ n1_ n2_ n3_ n4_ n5_ n6_ n7_ n8_; clear hb hbox hg; obtain ⟨Ao14, co14, eo14⟩ := Kd.R_slice HO1.out; subst eo14; have hnb15 := NB208_209.out; have hnc15 := NB209_208.out; have hcz16_0 : w13.cell? ⟨gb208, 0, none⟩ = some (.slice A0_0 l0_0.length c0_0) := (blk_cell BK208.out 0).trans rfl; have hcz16_1 : w13.cell? ⟨gb208, 1, none⟩ = some (.string a0_1) := (blk_cell BK208.out 1).trans rfl; have hcz16_2 : w13.cell? ⟨gb208, 2, none⟩ = some (.bool a0_2) := (blk_cell BK208.out 2).trans rfl; have hfz16_0 := blk_frozen BK208.out 0; have hfz16_1 := blk_frozen BK208.out 1; have hfz16_2 := blk_frozen BK208.out 2) | ((with_reducible refine gate_callee (f := 25) rfl ?_); refine goesL_ (some 9) rfl rfl Tryd.func25 (by kernel_rfl) rfl #[.agg #[.slice Ao14 l1.length co14, .string a0_1, .bool a0_2]] rfl ml ?_; (with_reducible refine (head_Message_Text.calls _ _ l1 a0_1 a0_2 t210 _ ?side1 ?side2 A3.out).mono ?_); (case side1 => refine (Kd.R_reads' (e := 41) (base := w0.heap.size) (ok := fun k_ => (P1_ k_ ∨ w.heap.size ≤ k_)) (n := l1.length) (c := co14) ?_).2.2; exact (by (with_reducible repeat (first | apply Kd.R_alloc | apply Kd.R_drewN | apply Kd.R_drew)); exact (Kd.R_mono (Kd.R_far (p := ⟨gb208, 0, none⟩) (Kd.R_types HO1.out BK208.out (by decide)) (fun _ hk => hk.2) (.slice Ao14 l1.length co14)) (fun _ h_ => h_.1)))); (case side2 => exact (Kd.R_reads' HO1.out).2.1); rintro e w17 ⟨rfl, hb⟩; refine ⟨_, rfl, ?_⟩; have n0_ := Aside0.mk (Kd.R_below (by (with_reducible repeat (first | apply Kd.R_alloc | apply Kd.R_drewN | apply Kd.R_drew)); exact (Kd.R_mono (Kd.R_far (p := ⟨gb208, 0, none⟩) (Kd.R_types HO1.out BK208.out (by decide)) (fun _ hk => hk.2) (.slice Ao14 l1.length co14)) (fun _ h_ => h_.1))) hb); have n1_ := Aside0.mk (blk_below (g := gb208) (o := .cells #[.slice Ao14 l1.length co14, .string a0_1, .bool a0_2] 24 (0, 0)) (by (with_reducible repeat (first | refine blk_drewN ?_ _ | refine blk_drew ?_ | refine blk_alloc ?_ _)); refine blk_put (cs := #[.slice A0_0 l0_0.length c0_0, .string a0_1, .bool a0_2]) ?_ 0 _ rfl; (with_reducible repeat (first | refine blk_drewN ?_ _ | refine blk_drew ?_ | refine blk_alloc ?_ _)); exact BK208.out) hb); have n2_ := Aside0.mk (kb BK209.out hb); have n3_ := Aside0.mk (Kept.below (S := (fun k_ => P1_ k_)) (by repeat (first | (with_reducible first | exact HK.out | apply Kept.alloc | apply Kept.drewN | apply Kept.drew | refine Kept.setCell ?_ (.inr GW208.out) _ | refine Kept.setCell ?_ (.inr GW209.out) _) | exact HK.out)) hb); have n4_ := Aside0.mk (below_step bl hb); clear HO1; clear BK208; clear BK209; clear HK; clear HB; have HO1 := n0_; have BK208 := n1_; have BK209 := n2_; have HK := n3_; have HB := n4_; clear n0_ n1_ n2_ n3_ n4_; (try clear hb); (try clear hb2); (try clear hk); (try clear hi); have hcz18_0 : w17.cell? ⟨gb208, 0, none⟩ = some (.slice Ao14 l1.length co14) := (blk_cell BK208.out 0).trans rfl; have hcz18_1 : w17.cell? ⟨gb208, 1, none⟩ = some (.string a0_1) := (blk_cell BK208.out 1).trans rfl; have hcz18_2 : w17.cell? ⟨gb208, 2, none⟩ = some (.bool a0_2) := (blk_cell BK208.out 2).trans rfl; have hfz18_0 := blk_frozen BK208.out 0; have hfz18_1 := blk_frozen BK208.out 1; have hfz18_2 := blk_frozen BK208.out 2; have hcz19_0 : w17.cell? ⟨gb209, 0, none⟩ = some (.slice none 0 0) := (blk_cell BK209.out 0).trans rfl; have hcz19_1 : w17.cell? ⟨gb209, 1, none⟩ = some (.string (⟨#[]⟩ : ByteArray)) := (blk_cell BK209.out 1).trans rfl; have hcz19_2 : w17.cell? ⟨gb209, 2, none⟩ = some (.bool false) := (blk_cell BK209.out 2).trans rfl; have hfz19_0 := blk_frozen BK209.out 0; have hfz19_1 := blk_frozen BK209.out 1; have hfz19_2 := blk_frozen BK209.out 2))
  refine bodyPost_ret (results_ct rfl _ _ gb209 24 #[.slice Ao14 l1.length co14, .string a0_1, .bool a0_2] (0, 0) _ rfl (by (with_reducible repeat (first | refine blk_drewN ?_ _ | refine blk_drew ?_ | refine blk_alloc ?_ _)); refine blk_put (cs := #[.slice Ao14 l1.length co14, .string a0_1, .bool false]) ?_ 2 _ rfl; (with_reducible repeat (first | refine blk_drewN ?_ _ | refine blk_drew ?_ | refine blk_alloc ?_ _)); refine blk_put (cs := #[.slice Ao14 l1.length co14, .string (⟨#[]⟩ : ByteArray), .bool false]) ?_ 1 _ rfl; (with_reducible repeat (first | refine blk_drewN ?_ _ | refine blk_drew ?_ | refine blk_alloc ?_ _)); refine blk_put (cs := #[.slice none 0 0, .string (⟨#[]⟩ : ByteArray), .bool false]) ?_ 0 _ rfl; (with_reducible repeat (first | refine blk_drewN ?_ _ | refine blk_drew ?_ | refine blk_alloc ?_ _)); exact BK209.out) Tryd.underlying24 rfl (by kernel_rfl)) rfl ?_
  exact ⟨_, by first | rfl | (simp [errW_none, errW_some] <;> rfl) | (simp [*, errW_none, errW_some] <;> rfl), by (with_reducible repeat (first | apply Kd.R_alloc | apply Kd.R_drewN | apply Kd.R_drew)); exact Kd.R_mono (Kd.R_far (p := ⟨gb209, 2, none⟩) (Kd.R_far (p := ⟨gb209, 1, none⟩) (Kd.R_far (p := ⟨gb209, 0, none⟩) (Kd.R_types HO1.out BK209.out (by decide)) (fun _ hk => hk.2) (.slice Ao14 l1.length co14)) (fun _ hk => hk.2) (.string a0_1)) (fun _ hk => hk.2) (.bool a0_2)) (fun _ hk => hk.1), by repeat (first | (with_reducible first | exact HB.out | apply below_alloc | apply pw_below_drewN | apply below_drew1 | refine below_set ?_ GE208.out | refine below_set ?_ GE209.out) | exact HB.out), by repeat (first | (with_reducible first | exact HK.out | apply Kept.alloc | apply Kept.drewN | apply Kept.drew | refine Kept.setCell ?_ (.inr GW208.out) _ | refine Kept.setCell ?_ (.inr GW209.out) _) | exact HK.out)⟩

end Go.Proofs.YtdciiahlakgikaaDoor.Q
end
section
namespace Go.Proofs.YtdciiahlakgikaaDoor.Q
open Go.RowKit Go.Proofs.YtdciiahlakgikaaDoorW.PrintWords Go.Proofs.YtdciiahlakgikaaDoorW.PrintLast Go.Proofs.YtdciiahlakgikaaDoorW.PrintMore
attribute [local go_sem] max2_int min2_int max_two min_two max_three min_three max_four min_four   -- for this text's walks alone
set_option linter.unusedVariables false
set_option linter.unusedSimpArgs false

/-! ### head_Message_Ahead: function 31 -/
def head_Message_Ahead.f (k : Nat) (l0_0 : List (S41)) (a0_1 : ByteArray) (a0_2 : Bool) (a1 : ByteArray) (a2 : ByteArray) : Option ((List (S41)) × ByteArray × Bool × Int) := (head_Lay.f k a1 a2).bind fun bt213 => (if bt213.2.2.2 = 0 then ((some (([(⟨bt213.1, bt213.2.1, bt213.2.2.1⟩ : S41)] : List (S41)) : List (S41))).bind fun y218 => (if y218.length + l0_0.length < 2932031007402 then ((head_Message_with.f l0_0 a0_1 a0_2 (y218 ++ l0_0)).bind fun bt224 => (some (bt224.1, bt224.2.1, bt224.2.2.1, bt224.2.2.2))) else (none))) else (some (([] : List (S41)), (⟨#[]⟩ : ByteArray), false, bt213.2.2.2)))
theorem head_Message_Ahead.mono : ∀ a0 a1 a2 a3 a4 k, LeO (head_Message_Ahead.f k a0 a1 a2 a3 a4) (head_Message_Ahead.f (k + 1) a0 a1 a2 a3 a4) := by
 intro a0 a1 a2 a3 a4 k
 unfold head_Message_Ahead.f
 repeat' first
   | (with_reducible exact head_Lay.mono _ _ _)
   | (with_reducible exact LeO.refl _)
   | (with_reducible exact LeO.none _)
   | (with_reducible refine LeO.ite ?_ ?_)
   | (with_reducible refine LeO.bind ?_ (fun _ => ?_))
   | exact head_Lay.mono _ _ _
   | exact LeO.none _
   | refine LeO.ite ?_ ?_
   | refine LeO.bind ?_ (fun _ => ?_)
def head_Message_Ahead.T4 : Bool × List (List Nat × List Nat) := (true, [([], []), ([], []), ([1], [1]), ([], []), ([3], [3]), ([2, 4], [2, 4]), ([0, 5, 5], [0, 5]), ([6], [6]), ([6], [6]), ([7, 6, 0, 1, 2, 3, 4, 5, 6, 7, 8], [7]), ([8, 9, 0, 1, 2, 3, 4, 5, 6, 7, 8, 9], [8])])
def head_Message_Ahead.B4 : List Nat := [0, 0, 2, 0, 8, 30, 63, 127, 127, 511, 1023]
theorem head_Message_Ahead.tab4 : rtab .any (opsOf Tryd.f31 4) = head_Message_Ahead.T4 := by kernel_rfl
theorem head_Message_Ahead.bits4 : waitsOk head_Message_Ahead.T4.2 head_Message_Ahead.B4 = true := by kernel_rfl
set_option maxHeartbeats 8000000 in
set_option maxRecDepth 100000 in
theorem head_Message_Ahead.calls (k : Nat) (A0_0 : Option Addr) (c0_0 : Nat) (l0_0 : List (S41)) (a0_1 : ByteArray) (a0_2 : Bool) (a1 : ByteArray) (a2 : ByteArray) (r1 : List (S41)) (r2 : ByteArray) (r3 : Bool) (r4 : Int) (w : World) (hr0_0 : Kd.C k41 w A0_0 l0_0.length l0_0) (hc0_0 : l0_0.length ≤ c0_0) (hG : Glob w) (h : head_Message_Ahead.f k l0_0 a0_1 a0_2 a1 a2 = some (r1, r2, r3, r4)) :
  Calls Tryd.prog 31 #[.agg #[.slice A0_0 l0_0.length c0_0, .string a0_1, .bool a0_2], .string a1, .string a2] w fun e w' => ∃ v0_ : Value, e = .returned (.tuple #[.agg #[v0_, .string r2, .bool r3], .int .i64 r4]) ∧ Kd.R k41 41 w' w.heap.size (fun _ => True) v0_ r1 ∧ Below w.heap.size w w' := by
 have hu24 := Tryd.underlying24
 have hu41 := Tryd.underlying41
 have HR0_0 := Aside0.mk hr0_0
 have HC0_0 := Aside0.mk hc0_0
 clear hr0_0 hc0_0
 have HB := Aside0.mk (Below.refl w.heap.size w)
 have HG := Aside0.mk hG
 clear hG
 have H : ((head_Lay.f k a1 a2).bind fun bt213 => (if bt213.2.2.2 = 0 then ((some (([(⟨bt213.1, bt213.2.1, bt213.2.2.1⟩ : S41)] : List (S41)) : List (S41))).bind fun y218 => (if y218.length + l0_0.length < 2932031007402 then ((head_Message_with.f l0_0 a0_1 a0_2 (y218 ++ l0_0)).bind fun bt224 => (some (bt224.1, bt224.2.1, bt224.2.2.1, bt224.2.2.2))) else (none))) else (some (([] : List (S41)), (⟨#[]⟩ : ByteArray), false, bt213.2.2.2)))) = some (r1, r2, r3, r4) := h
 clear h
 replace H := Option.bind_eq_some_iff.mp H
 obtain ⟨⟨t213, t214, t215, t216⟩, A40, H⟩ := H
 replace H : (if t216 = 0 then ((some (([(⟨t213, t214, t215⟩ : S41)] : List (S41)) : List (S41))).bind fun y218 => (if y218.length + l0_0.length < 2932031007402 then ((head_Message_with.f l0_0 a0_1 a0_2 (y218 ++ l0_0)).bind fun bt224 => (some (bt224.1, bt224.2.1, bt224.2.2.1, bt224.2.2.2))) else (none))) else (some (([] : List (S41)), (⟨#[]⟩ : ByteArray), false, t216))) = some (r1, r2, r3, r4) := H
 have A4 := Aside0.mk A40
 clear A40
 by_cases c5 : t216 = 0
 ·rw [if_pos c5] at H
  have c5b0 : (t216 == 0) = true := beq_iff_eq.mpr c5
  have c5b1 : (t216 != 0) = false := bne_eq_false_iff_eq.mpr c5
  clear c5
  obtain ⟨y218, hy218⟩ : ∃ y_ : List (S41), y_ = (([(⟨t213, t214, t215⟩ : S41)] : List (S41))) := ⟨_, rfl⟩
  replace H : (if y218.length + l0_0.length < 2932031007402 then ((head_Message_with.f l0_0 a0_1 a0_2 (y218 ++ l0_0)).bind fun bt224 => (some (bt224.1, bt224.2.1, bt224.2.2.1, bt224.2.2.2))) else (none)) = some (r1, r2, r3, r4) := by first | (rw [hy218]; with_reducible exact H) | (have H2_ := (Option.bind_some _ _).symm.trans H; rw [hy218]; with_reducible exact H2_) | (have H2_ := (Option.bind_some _ _).symm.trans H; with_reducible exact H2_) | with_reducible exact H | (rw [hy218]; exact H) | exact H
  have Ny218 := Aside0.mk hy218
  clear hy218
  by_cases c6 : y218.length + l0_0.length < 2932031007402
  ·rw [if_pos c6] at H
   have LMc6 := Aside0.mk c6
   clear c6
   obtain ⟨y221, hy221⟩ : ∃ y_ : List (S41), y_ = (y218 ++ l0_0) := ⟨_, rfl⟩
   replace H : ((head_Message_with.f l0_0 a0_1 a0_2 y221).bind fun bt224 => (some (bt224.1, bt224.2.1, bt224.2.2.1, bt224.2.2.2))) = some (r1, r2, r3, r4) := by first | (rw [hy221]; with_reducible exact H) | (have H2_ := (Option.bind_some _ _).symm.trans H; rw [hy221]; with_reducible exact H2_) | (have H2_ := (Option.bind_some _ _).symm.trans H; with_reducible exact H2_) | with_reducible exact H | (rw [hy221]; exact H) | exact H
   have Ny221 := Aside0.mk hy221
   clear hy221
   replace H := Option.bind_eq_some_iff.mp H
   obtain ⟨⟨t224, t227, t228, t229⟩, A70, H⟩ := H
   replace H : (some (t224, t227, t228, t229)) = some (r1, r2, r3, r4) := H
   have A7 := Aside0.mk A70
   clear A70
   simp only [Option.some.injEq, Prod.mk.injEq] at H
   obtain ⟨rfl, rfl, rfl, rfl⟩ := H
   go_enter Tryd.func31, Tryd.ntmps31
   try go_wp2_with (first | ((with_reducible refine gate_dst (N := 3) rfl ?_); refine box_event ?hg (N := 3) ?hd (cs := #[.slice A0_0 l0_0.length c0_0, .string a0_1, .bool a0_2]) (t := 24) ?hr ?_; (case hd => rfl); (case hg => rfl); (case hr => first | (go_simp; done) | (go_simp; rfl)); intro gb211 hg w8 hbox hb; have n0_ := Aside0.mk (below_step bl hb); have n1_ := Aside0.mk (hbox); have n2_ := Aside0.mk ((by rw [hg]; exact (below_size bl) : w.heap.size ≤ gb211)); have n3_ := Aside0.mk ((by rw [hg]; exact (below_size bl) : w.heap.size ≤ gb211)); clear HB; have HB := n0_; have BK211 := n1_; have GW211 := n2_; have GE211 := n3_; clear n0_ n1_ n2_ n3_; clear hb hbox hg) | ((with_reducible refine gate_dst (N := 6) rfl ?_); refine box_event ?hg (N := 6) ?hd (cs := #[.slice none 0 0, .string (⟨#[]⟩ : ByteArray), .bool false]) (t := 24) ?hr ?_; (case hd => rfl); (case hg => rfl); (case hr => first | (go_simp; done) | (go_simp; rfl)); intro gb212 hg w9 hbox hb; have n0_ := Aside0.mk (kb BK211.out hb); have n1_ := Aside0.mk (below_step bl hb); have n2_ := Aside0.mk (hbox); have n3_ := Aside0.mk ((by rw [hg]; exact (below_size bl) : w.heap.size ≤ gb212)); have n4_ := Aside0.mk ((by rw [hg]; exact (below_size bl) : w.heap.size ≤ gb212)); have n5_ := Aside0.mk ((by rw [hg]; exact Nat.ne_of_lt (blk_lt (bk BK211.out)) : gb211 ≠ gb212)); have n6_ := Aside0.mk ((by rw [hg]; exact Nat.ne_of_gt (blk_lt (bk BK211.out)) : gb212 ≠ gb211)); clear BK211; clear HB; have BK211 := n0_; have HB := n1_; have BK212 := n2_; have GW212 := n3_; have GE212 := n4_; have NB211_212 := n5_; have NB212_211 := n6_; clear n0_ n1_ n2_ n3_ n4_ n5_ n6_; clear hb hbox hg) | ((with_reducible refine gate_callee (f := 14) rfl ?_); refine goesL_ (some 13) rfl rfl Tryd.func14 (by kernel_rfl) rfl #[.string a1, .string a2] rfl ml ?_; (with_reducible refine (head_Lay.calls k a1 a2 t213 t214 t215 t216 _ ?side1 A4.out).mono ?_); (case side1 => exact Glob.below HG.out bl); rintro e w10 ⟨rfl, hb⟩; refine ⟨_, rfl, ?_⟩; have n0_ := Aside0.mk (kb BK211.out hb); have n1_ := Aside0.mk (kb BK212.out hb); have n2_ := Aside0.mk (below_step bl hb); clear BK211; clear BK212; clear HB; have BK211 := n0_; have BK212 := n1_; have HB := n2_; clear n0_ n1_ n2_; (try clear hb); (try clear hb2); (try clear hk); (try clear hi)) | ((with_reducible refine gate_dst (N := 8) rfl ?_); refine box_event ?hg (N := 8) ?hd (cs := #[.string (⟨#[]⟩ : ByteArray), .string (⟨#[]⟩ : ByteArray), .string (⟨#[]⟩ : ByteArray)]) (t := 41) ?hr ?_; (case hd => rfl); (case hg => rfl); (case hr => first | (go_simp; done) | (go_simp; rfl)); intro gb217 hg w11 hbox hb; have n0_ := Aside0.mk (kb BK211.out hb); have n1_ := Aside0.mk (kb BK212.out hb); have n2_ := Aside0.mk (below_step bl hb); have n3_ := Aside0.mk (hbox); have n4_ := Aside0.mk ((by rw [hg]; exact (below_size bl) : w.heap.size ≤ gb217)); have n5_ := Aside0.mk ((by rw [hg]; exact (below_size bl) : w.heap.size ≤ gb217)); have n6_ := Aside0.mk ((by rw [hg]; exact Nat.ne_of_lt (blk_lt (bk BK211.out)) : gb211 ≠ gb217)); have n7_ := Aside0.mk ((by rw [hg]; exact Nat.ne_of_gt (blk_lt (bk BK211.out)) : gb217 ≠ gb211)); have n8_ := Aside0.mk ((by rw [hg]; exact Nat.ne_of_lt (blk_lt (bk BK212.out)) : gb212 ≠ gb217)); have n9_ := Aside0.mk ((by rw [hg]; exact Nat.ne_of_gt (blk_lt (bk BK212.out)) : gb217 ≠ gb212)); clear BK211; clear BK212; clear HB; have BK211 := n0_; have BK212 := n1_; have HB := n2_; have BK217 := n3_; have GW217 := n4_; have GE217 := n5_; have NB211_217 := n6_; have NB217_211 := n7_; have NB212_217 := n8_; have NB217_212 := n9_; clear n0_ n1_ n2_ n3_ n4_ n5_ n6_ n7_ n8_ n9_; clear hb hbox hg; have hnb12 := NB217_211.out; have hnc12 := NB211_217.out; have hnb13 := NB217_212.out; have hnc13 := NB212_217.out; have hcz14_0 : w11.cell? ⟨gb217, 0, none⟩ = some (.string (⟨#[]⟩ : ByteArray)) := (blk_cell BK217.out 0).trans rfl; have hcz14_1 : w11.cell? ⟨gb217, 1, none⟩ = some (.string (⟨#[]⟩ : ByteArray)) := (blk_cell BK217.out 1).trans rfl; have hcz14_2 : w11.cell? ⟨gb217, 2, none⟩ = some (.string (⟨#[]⟩ : ByteArray)) := (blk_cell BK217.out 2).trans rfl; have hfz14_0 := blk_frozen BK217.out 0; have hfz14_1 := blk_frozen BK217.out 1; have hfz14_2 := blk_frozen BK217.out 2))
   have n0_ : Aside0 ((((w11.setCell ⟨gb217, 0, none⟩ (.string t213)).setCell ⟨gb217, 1, none⟩ (.string t214)).setCell ⟨gb217, 2, none⟩ (.string t215)).heap[gb211]? = some (.cells #[.slice A0_0 l0_0.length c0_0, .string a0_1, .bool a0_2] 24 (0, 0))) := ⟨by (with_reducible repeat (first | refine blk_drewN ?_ _ | refine blk_drew ?_ | refine blk_alloc ?_ _)); refine blk_far ?_ NB211_217.out _; (with_reducible repeat (first | refine blk_drewN ?_ _ | refine blk_drew ?_ | refine blk_alloc ?_ _)); refine blk_far ?_ NB211_217.out _; (with_reducible repeat (first | refine blk_drewN ?_ _ | refine blk_drew ?_ | refine blk_alloc ?_ _)); refine blk_far ?_ NB211_217.out _; (with_reducible repeat (first | refine blk_drewN ?_ _ | refine blk_drew ?_ | refine blk_alloc ?_ _)); exact BK211.out⟩
   have n1_ : Aside0 ((((w11.setCell ⟨gb217, 0, none⟩ (.string t213)).setCell ⟨gb217, 1, none⟩ (.string t214)).setCell ⟨gb217, 2, none⟩ (.string t215)).heap[gb212]? = some (.cells #[.slice none 0 0, .string (⟨#[]⟩ : ByteArray), .bool false] 24 (0, 0))) := ⟨by (with_reducible repeat (first | refine blk_drewN ?_ _ | refine blk_drew ?_ | refine blk_alloc ?_ _)); refine blk_far ?_ NB212_217.out _; (with_reducible repeat (first | refine blk_drewN ?_ _ | refine blk_drew ?_ | refine blk_alloc ?_ _)); refine blk_far ?_ NB212_217.out _; (with_reducible repeat (first | refine blk_drewN ?_ _ | refine blk_drew ?_ | refine blk_alloc ?_ _)); refine blk_far ?_ NB212_217.out _; (with_reducible repeat (first | refine blk_drewN ?_ _ | refine blk_drew ?_ | refine blk_alloc ?_ _)); exact BK212.out⟩
   have n2_ : Aside0 ((((w11.setCell ⟨gb217, 0, none⟩ (.string t213)).setCell ⟨gb217, 1, none⟩ (.string t214)).setCell ⟨gb217, 2, none⟩ (.string t215)).heap[gb217]? = some (.cells #[.string t213, .string t214, .string t215] 41 (0, 0))) := ⟨by (with_reducible repeat (first | refine blk_drewN ?_ _ | refine blk_drew ?_ | refine blk_alloc ?_ _)); refine blk_put (cs := #[.string t213, .string t214, .string (⟨#[]⟩ : ByteArray)]) ?_ 2 _ rfl; (with_reducible repeat (first | refine blk_drewN ?_ _ | refine blk_drew ?_ | refine blk_alloc ?_ _)); refine blk_put (cs := #[.string t213, .string (⟨#[]⟩ : ByteArray), .string (⟨#[]⟩ : ByteArray)]) ?_ 1 _ rfl; (with_reducible repeat (first | refine blk_drewN ?_ _ | refine blk_drew ?_ | refine blk_alloc ?_ _)); refine blk_put (cs := #[.string (⟨#[]⟩ : ByteArray), .string (⟨#[]⟩ : ByteArray), .string (⟨#[]⟩ : ByteArray)]) ?_ 0 _ rfl; (with_reducible repeat (first | refine blk_drewN ?_ _ | refine blk_drew ?_ | refine blk_alloc ?_ _)); exact BK217.out⟩
   have n3_ : Aside0 (Below w.heap.size w (((w11.setCell ⟨gb217, 0, none⟩ (.string t213)).setCell ⟨gb217, 1, none⟩ (.string t214)).setCell ⟨gb217, 2, none⟩ (.string t215))) := ⟨by repeat (first | (with_reducible first | exact HB.out | apply below_alloc | apply pw_below_drewN | apply below_drew1 | refine below_set ?_ GE211.out | refine below_set ?_ GE212.out | refine below_set ?_ GE217.out) | exact HB.out)⟩
   (try clear BK211)
   (try clear BK212)
   (try clear BK217)
   (try clear HB)
   generalize (((w11.setCell ⟨gb217, 0, none⟩ (.string t213)).setCell ⟨gb217, 1, none⟩ (.string t214)).setCell ⟨gb217, 2, none⟩ (.string t215)) = w15 at n0_ n1_ n2_ n3_ ⊢
   have BK211 := n0_
   have BK212 := n1_
   have BK217 := n2_
   have HB := n3_
   clear n0_ n1_ n2_ n3_
   have n0_ := Aside0.mk (blk_drew BK211.out)
   have n1_ := Aside0.mk (blk_drew BK212.out)
   have n2_ := Aside0.mk (blk_drew BK217.out)
   have n3_ := Aside0.mk (below_drew1 HB.out)
   clear BK211
   clear BK212
   clear BK217
   clear HB
   have BK211 := n0_
   have BK212 := n1_
   have BK217 := n2_
   have HB := n3_
   clear n0_ n1_ n2_ n3_
   refine start_ (n := 11) (S := fun w' => w'.cell? ⟨gb211, 0, none⟩ = some (.slice A0_0 l0_0.length c0_0) ∧ w'.cell? ⟨gb211, 1, none⟩ = some (.string a0_1) ∧ w'.cell? ⟨gb211, 2, none⟩ = some (.bool a0_2) ∧ w'.cell? ⟨gb217, 0, none⟩ = some (.string t213) ∧ w'.cell? ⟨gb217, 1, none⟩ = some (.string t214) ∧ w'.cell? ⟨gb217, 2, none⟩ = some (.string t215)) (ds := []) #[false, false, false, false, false, false, false, false, false, false, false] (by kernel_rfl) rfl rfl ⟨(blk_cell BK211.out 0).trans rfl, (blk_cell BK211.out 1).trans rfl, (blk_cell BK211.out 2).trans rfl, (blk_cell BK217.out 0).trans rfl, (blk_cell BK217.out 1).trans rfl, (blk_cell BK217.out 2).trans rfl⟩ (fun hHeld => ?_); refine with_tabW head_Message_Ahead.tab4 head_Message_Ahead.bits4 (fun HT_ HW_ => ?_)
   generalize w15.drew = w16 at BK211 BK212 BK217 HB hHeld ⊢
   refine pure_ (i := 3) (N := some 23) (v := ?_) (a' := ?_) #[false, false, false, true, false, false, false, false, false, false, false] rfl rfl (any_of HT_.out (by kernel_rfl)) (fun _ _ _ h => h) (Or.inl ⟨by rfl, ?_⟩) ?_ ?_
   rotate_left
   ·intro w'
    go_simp
    with_reducible rfl
   rotate_left
   ·simp only [Act.put, List.setIfInBounds_toArray, List.set_cons_zero, List.set_cons_succ, i64_w, i32_w]
    rfl
   refine take_ (i := 0) (N := some 20) (v := ?_) (a' := ?_) #[true, false, false, true, false, false, false, false, false, false, false] rfl rfl (take_ofW HT_.out HW_.out (by kernel_rfl)) (fun _ _ _ h => h) (Or.inl ⟨by rfl, ?_⟩) hHeld ?_ ?_
   rotate_left
   ·rintro w' ⟨s0, s1, s2, s3, s4, s5⟩
    go_simp
    with_reducible rfl
   rotate_left
   ·simp only [Act.put, List.setIfInBounds_toArray, List.set_cons_zero, List.set_cons_succ, i64_w, i32_w]
    rfl
   refine take_ (i := 1) (N := some 21) (v := ?_) (a' := ?_) #[true, true, false, true, false, false, false, false, false, false, false] rfl rfl (take_ofW HT_.out HW_.out (by kernel_rfl)) (fun _ _ _ h => h) (Or.inl ⟨by rfl, ?_⟩) hHeld ?_ ?_
   rotate_left
   ·rintro w' ⟨s0, s1, s2, s3, s4, s5⟩
    go_simp
    with_reducible rfl
   rotate_left
   ·simp only [Act.put, List.setIfInBounds_toArray, List.set_cons_zero, List.set_cons_succ, i64_w, i32_w]
    rfl
   refine take_ (i := 4) (N := some 24) (v := ?_) (a' := ?_) #[true, true, false, true, true, false, false, false, false, false, false] rfl rfl (take_ofW HT_.out HW_.out (by kernel_rfl)) (fun _ _ _ h => h) (Or.inl ⟨by rfl, ?_⟩) hHeld ?_ ?_
   rotate_left
   ·rintro w' ⟨s0, s1, s2, s3, s4, s5⟩
    go_simp
    with_reducible rfl
   rotate_left
   ·simp only [Act.put, List.setIfInBounds_toArray, List.set_cons_zero, List.set_cons_succ, i64_w, i32_w]
    rfl
   refine one_ (i := 2) (N := some 22) #[true, true, true, true, true, false, false, false, false, false, false] rfl rfl (one_of HT_.out (by kernel_rfl)) (by decide) (fun K hK => ?_)
   refine Kd.R_lit_step k41 _ 41 ?hg (N := 22) ?hd (xs := ([(⟨t213, t214, t215⟩ : S41)] : List (S41))) (inner := [.string t213, .string t214, .string t215]) (ok := fun _ => True) (okp := fun _ => True) ?hr ?hp (fun _ hk => hk) trivial (Below.refl _ _) (Nat.le_refl _) (by simp) ?_; (case hd => rfl); (case hg => rfl); (case hr => first | (go_simp; done) | (go_simp; rfl)); (case hp => exact (Reps.c3 (show Kd.M k41 _ _ _ (⟨t213, t214, t215⟩ : S41) [.string t213, .string t214, .string t215] from (k41_mkM _ _ _ (⟨t213, t214, t215⟩ : S41) )) (Reps.none _ _)))
   intro v219 w17 ho18 hb hg_ hnew_
   clear hg_ hnew_
   (first | rw [← Ny218.out] at ho18 | (simp only [Int.reduceToNat] at ho18; rw [← Ny218.out] at ho18))
   have n0_ := Aside0.mk (Kd.R_lower (Kd.R_newB ho18 (g := gb217) (o := .cells #[.string t213, .string t214, .string t215] 41 (0, 0)) (bk BK217.out)) (below_size bl))
   have n1_ := Aside0.mk (kb BK211.out hb)
   have n2_ := Aside0.mk (kb BK212.out hb)
   have n3_ := Aside0.mk (kb BK217.out hb)
   have n4_ := Aside0.mk (below_step bl hb)
   clear BK211
   clear BK212
   clear BK217
   clear HB
   have HO220 := n0_
   have BK211 := n1_
   have BK212 := n2_
   have BK217 := n3_
   have HB := n4_
   clear n0_ n1_ n2_ n3_ n4_
   clear hb ho18
   refine hK.out _ _ ⟨(blk_cell BK211.out 0).trans rfl, (blk_cell BK211.out 1).trans rfl, (blk_cell BK211.out 2).trans rfl, (blk_cell BK217.out 0).trans rfl, (blk_cell BK217.out 1).trans rfl, (blk_cell BK217.out 2).trans rfl⟩ (fun hHeld => ?_)
   clear hK K
   refine norm_ (a' := ?_) ?_ ?_
   rotate_left
   ·show Act.put _ (some 22) _ = _
    simp only [Act.put, List.setIfInBounds_toArray, List.set_cons_zero, List.set_cons_succ, i64_w, i32_w]
    rfl
   refine one_ (i := 5) (N := some 25) #[true, true, true, true, true, true, false, false, false, false, false] rfl rfl (one_of HT_.out (by kernel_rfl)) (by decide) (fun K hK => ?_)
   refine Kd.R_append_rows_step k41 (w0 := w) w.heap.size (by rfl) (.tmp 22) (.tmp 24) 22 41 (.agg #[(.string ⟨#[]⟩), (.string ⟨#[]⟩), (.string ⟨#[]⟩)]) 48 rfl Tryd.underlying22 info41 rfl (by decide) (by omega) v219 y218 l0_0 _ _ _ (fun k_ => k_ ≠ gb217) (fun _ => False) rfl rfl ?aO ?aR (fun _ _ h => h) (fun _ h => h.elim) ?aF ?aB ?aS ?aL ?_
   (case aR => repeat (first | exact (Kd.C_below HR0_0.out HB.out) | (with_reducible refine Kd.C_alloc ?_ _) | (with_reducible refine Kd.C_drewN ?_ _) | (with_reducible refine Kd.C_drew ?_)))
   (case aB => exact bl)
   (case aF => exact (fun k_ hk => Kd.freshB (g := gb217) (o := .cells #[.string t213, .string t214, .string t215] 41 (0, 0)) (bk BK217.out) k_ hk))
   (case aO => exact (by (with_reducible repeat (first | apply Kd.R_alloc | apply Kd.R_drewN | apply Kd.R_drew)); exact Kd.R_mono HO220.out (fun _ hk => hk.2)))
   (case aS => exact (below_size bl))
   (case aL => have := LMc6.out; omega)
   intro v222 w19 ho hb hg hat
   rw [← Ny221.out] at ho
   have n0_ := Aside0.mk (blk_grown (g := gb211) (o := .cells #[.slice A0_0 l0_0.length c0_0, .string a0_1, .bool a0_2] 24 (0, 0)) (bk BK211.out) hg (Kd.R_ne HO220.out BK211.out (by decide)))
   have n1_ := Aside0.mk (blk_grown (g := gb212) (o := .cells #[.slice none 0 0, .string (⟨#[]⟩ : ByteArray), .bool false] 24 (0, 0)) (bk BK212.out) hg (Kd.R_ne HO220.out BK212.out (by decide)))
   have n2_ := Aside0.mk (blk_grown (g := gb217) (o := .cells #[.string t213, .string t214, .string t215] 41 (0, 0)) (bk BK217.out) hg (Kd.R_away HO220.out (fun _ hk => hk.2)))
   have n3_ := Aside0.mk (hb)
   have n4_ := Aside0.mk (ho)
   clear BK211
   clear BK212
   clear BK217
   clear HB
   clear HO220
   have BK211 := n0_
   have BK212 := n1_
   have BK217 := n2_
   have HB := n3_
   have HO223 := n4_
   clear n0_ n1_ n2_ n3_ n4_
   clear ho hb hg hat
   obtain ⟨Ao20, co20, eo20⟩ := Kd.R_slice HO223.out
   (first | subst eo20 | (injection eo20 with f1_ f2_ f3_; have f4_ := f1_.symm; have f5_ := f3_.symm; clear f1_ f2_ f3_; subst f4_; subst f5_))
   refine hK.out _ _ ⟨(blk_cell BK211.out 0).trans rfl, (blk_cell BK211.out 1).trans rfl, (blk_cell BK211.out 2).trans rfl, (blk_cell BK217.out 0).trans rfl, (blk_cell BK217.out 1).trans rfl, (blk_cell BK217.out 2).trans rfl⟩ (fun hHeld => ?_)
   clear hK K
   refine norm_ (a' := ?_) ?_ ?_
   rotate_left
   ·show Act.put _ (some 25) _ = _
    simp only [Act.put, List.setIfInBounds_toArray, List.set_cons_zero, List.set_cons_succ, i64_w, i32_w]
    rfl
   refine one_ (i := 6) (N := some 26) #[true, true, true, true, true, true, true, false, false, false, false] rfl rfl (one_of HT_.out (by kernel_rfl)) (by decide) (fun K hK => ?_)
   refine goes_ Tryd.func68 (by kernel_rfl) rfl #[.agg #[.slice A0_0 l0_0.length c0_0, .string a0_1, .bool a0_2], .slice Ao20 y221.length co20] (by rfl) rfl rfl ml ?_
   with_reducible refine (head_Message_with.calls _ _ l0_0 a0_1 a0_2 (fun k_ => some k_ = (.slice Ao20 y221.length co20 : Value).ownBlock) (.slice Ao20 y221.length co20) y221 t224 t227 t228 t229 w _ ?side1 ?side2 ?side3 ?side4 A7.out).mono ?_
   (case side1 => repeat (first | (with_reducible first | exact HB.out | apply below_alloc | apply pw_below_drewN | apply below_drew1 | refine below_set ?_ GE211.out | refine below_set ?_ GE212.out | refine below_set ?_ GE217.out) | exact HB.out))
   (case side2 => exact Kd.C_kept_came k41_heap HR0_0.out bl (fun k_ hs_ => (fun e_ => Kd.R_base HO223.out k_ e_.symm) hs_))
   (case side3 => exact HC0_0.out)
   (case side4 => exact Kd.R_tight rfl HO223.out)
   rintro e w21 ⟨v225, rfl, ho0, hb, hkp⟩
   refine ⟨_, rfl, ?_⟩
   have n0_ := Aside0.mk (blk_kept (bk BK211.out) hkp (fun hs_ => (fun e_ => (Kd.R_ne HO223.out BK211.out (by decide)) e_) hs_))
   have n1_ := Aside0.mk (blk_kept (bk BK212.out) hkp (fun hs_ => (fun e_ => (Kd.R_ne HO223.out BK212.out (by decide)) e_) hs_))
   have n2_ := Aside0.mk (blk_kept (bk BK217.out) hkp (fun hs_ => (fun e_ => (Kd.R_away HO223.out (fun _ hk => hk)) e_) hs_))
   have n3_ := Aside0.mk (Kd.R_mono (ok' := fun k_ => k_ ≠ gb217) ho0 (fun k_ hk_ => Or.elim hk_ (fun hs_ => fun e_ => (Kd.R_away HO223.out (fun _ hk => hk)) (by rw [← e_]; exact hs_)) (fun hn_ => (Kd.freshB (g := gb217) (o := .cells #[.string t213, .string t214, .string t215] 41 (0, 0)) (bk BK217.out) k_ hn_))))
   have n4_ := Aside0.mk (hb)
   clear BK211
   clear BK212
   clear BK217
   clear HB
   clear HO223
   have BK211 := n0_
   have BK212 := n1_
   have BK217 := n2_
   have HO226 := n3_
   have HB := n4_
   clear n0_ n1_ n2_ n3_ n4_
   (try clear hb)
   (try clear hkp)
   (try clear ho0)
   obtain ⟨Ao22, co22, eo22⟩ := Kd.R_slice HO226.out
   (first | subst eo22 | (injection eo22 with f1_ f2_ f3_; have f4_ := f1_.symm; have f5_ := f3_.symm; clear f1_ f2_ f3_; subst f4_; subst f5_))
   refine hK.out _ _ ⟨(blk_cell BK211.out 0).trans rfl, (blk_cell BK211.out 1).trans rfl, (blk_cell BK211.out 2).trans rfl, (blk_cell BK217.out 0).trans rfl, (blk_cell BK217.out 1).trans rfl, (blk_cell BK217.out 2).trans rfl⟩ (fun hHeld => ?_)
   clear hK K
   refine norm_ (a' := ?_) ?_ ?_
   rotate_left
   ·show Act.put _ (some 26) _ = _
    simp only [Act.put, List.setIfInBounds_toArray, List.set_cons_zero, List.set_cons_succ, i64_w, i32_w]
    rfl
   refine pure_ (i := 7) (N := some 27) (v := ?_) (a' := ?_) #[true, true, true, true, true, true, true, true, false, false, false] rfl rfl (any_of HT_.out (by kernel_rfl)) (fun _ _ _ h => h) (Or.inl ⟨by rfl, ?_⟩) ?_ ?_
   rotate_left
   ·intro w'
    go_simp
    with_reducible rfl
   rotate_left
   ·simp only [Act.put, List.setIfInBounds_toArray, List.set_cons_zero, List.set_cons_succ, i64_w, i32_w]
    rfl
   refine pure_ (i := 8) (N := some 28) (v := ?_) (a' := ?_) #[true, true, true, true, true, true, true, true, true, false, false] rfl rfl (any_of HT_.out (by kernel_rfl)) (fun _ _ _ h => h) (Or.inl ⟨by rfl, ?_⟩) ?_ ?_
   rotate_left
   ·intro w'
    go_simp
    with_reducible rfl
   rotate_left
   ·simp only [Act.put, List.setIfInBounds_toArray, List.set_cons_zero, List.set_cons_succ, i64_w, i32_w]
    rfl
   refine one_ (i := 9) (N := none) #[true, true, true, true, true, true, true, true, true, true, false] rfl rfl (one_of HT_.out (by kernel_rfl)) (by decide) (fun K hK => ?_)
   have hs23 : w21.cell? ⟨gb212, 0, none⟩ = some (.slice none 0 0) := (blk_cell BK212.out 0).trans rfl
   have hfs23 := blk_frozen BK212.out 0
   have hns23_0 := NB211_212.out
   have hns23_2 := NB217_212.out
   have hms23_0 := NB212_211.out
   have hms23_2 := NB212_217.out
   have hs24 : w21.cell? ⟨gb212, 1, none⟩ = some (.string (⟨#[]⟩ : ByteArray)) := (blk_cell BK212.out 1).trans rfl
   have hfs24 := blk_frozen BK212.out 1
   have hns24_0 := NB211_212.out
   have hns24_2 := NB217_212.out
   have hms24_0 := NB212_211.out
   have hms24_2 := NB212_217.out
   have hs25 : w21.cell? ⟨gb212, 2, none⟩ = some (.bool false) := (blk_cell BK212.out 2).trans rfl
   have hfs25 := blk_frozen BK212.out 2
   have hns25_0 := NB211_212.out
   have hns25_2 := NB217_212.out
   have hms25_0 := NB212_211.out
   have hms25_2 := NB212_217.out
   refine skip_ (w1 := ?_) (by rfl) rfl ?_ ?_
   rotate_left
   ·go_simp
    rfl
   refine hK.out _ _ ⟨((cell_far (p := ⟨gb212, _, none⟩) NB211_212.out _).trans (((cell_far (p := ⟨gb212, _, none⟩) NB211_212.out _).trans (((cell_far (p := ⟨gb212, _, none⟩) NB211_212.out _).trans (hHeld.1)))))), ((cell_far (p := ⟨gb212, _, none⟩) NB211_212.out _).trans (((cell_far (p := ⟨gb212, _, none⟩) NB211_212.out _).trans (((cell_far (p := ⟨gb212, _, none⟩) NB211_212.out _).trans (hHeld.2.1)))))), ((cell_far (p := ⟨gb212, _, none⟩) NB211_212.out _).trans (((cell_far (p := ⟨gb212, _, none⟩) NB211_212.out _).trans (((cell_far (p := ⟨gb212, _, none⟩) NB211_212.out _).trans (hHeld.2.2.1)))))), ((cell_far (p := ⟨gb212, _, none⟩) NB217_212.out _).trans (((cell_far (p := ⟨gb212, _, none⟩) NB217_212.out _).trans (((cell_far (p := ⟨gb212, _, none⟩) NB217_212.out _).trans (hHeld.2.2.2.1)))))), ((cell_far (p := ⟨gb212, _, none⟩) NB217_212.out _).trans (((cell_far (p := ⟨gb212, _, none⟩) NB217_212.out _).trans (((cell_far (p := ⟨gb212, _, none⟩) NB217_212.out _).trans (hHeld.2.2.2.2.1)))))), ((cell_far (p := ⟨gb212, _, none⟩) NB217_212.out _).trans (((cell_far (p := ⟨gb212, _, none⟩) NB217_212.out _).trans (((cell_far (p := ⟨gb212, _, none⟩) NB217_212.out _).trans (hHeld.2.2.2.2.2))))))⟩ (fun hHeld => ?_)
   clear hK K
   refine pure_ (i := 10) (N := some 7) (v := ?_) (a' := ?_) #[true, true, true, true, true, true, true, true, true, true, true] rfl rfl (any_of HT_.out (by kernel_rfl)) (fun _ _ _ h => h) (Or.inl ⟨by rfl, ?_⟩) ?_ ?_
   rotate_left
   ·intro w'
    go_simp
    with_reducible rfl
   rotate_left
   ·simp only [Act.put, List.setIfInBounds_toArray, List.set_cons_zero, List.set_cons_succ, i64_w, i32_w]
    rfl
   refine done_ (done_of HT_.out (by kernel_rfl)) ?_
   try go_wp2
   refine bodyPost_ret (results_ct rfl _ _ gb212 24 #[.slice Ao22 t224.length co22, .string t227, .bool t228] (0, 0) _ rfl (by (with_reducible repeat (first | refine blk_drewN ?_ _ | refine blk_drew ?_ | refine blk_alloc ?_ _)); refine blk_put (cs := #[.slice Ao22 t224.length co22, .string t227, .bool false]) ?_ 2 _ rfl; (with_reducible repeat (first | refine blk_drewN ?_ _ | refine blk_drew ?_ | refine blk_alloc ?_ _)); refine blk_put (cs := #[.slice Ao22 t224.length co22, .string (⟨#[]⟩ : ByteArray), .bool false]) ?_ 1 _ rfl; (with_reducible repeat (first | refine blk_drewN ?_ _ | refine blk_drew ?_ | refine blk_alloc ?_ _)); refine blk_put (cs := #[.slice none 0 0, .string (⟨#[]⟩ : ByteArray), .bool false]) ?_ 0 _ rfl; (with_reducible repeat (first | refine blk_drewN ?_ _ | refine blk_drew ?_ | refine blk_alloc ?_ _)); exact BK212.out) Tryd.underlying24 rfl (by kernel_rfl)) rfl ?_
   exact ⟨_, by first | rfl | (simp [errW_none, errW_some] <;> rfl) | (simp [*, errW_none, errW_some] <;> rfl), by (with_reducible repeat (first | apply Kd.R_alloc | apply Kd.R_drewN | apply Kd.R_drew)); exact Kd.R_mono (Kd.R_far (p := ⟨gb212, 2, none⟩) (Kd.R_far (p := ⟨gb212, 1, none⟩) (Kd.R_far (p := ⟨gb212, 0, none⟩) (Kd.R_types HO226.out BK212.out (by decide)) (fun _ hk => hk.2) (.slice Ao22 t224.length co22)) (fun _ hk => hk.2) (.string t227)) (fun _ hk => hk.2) (.bool t228)) (fun _ hk => trivial), by repeat (first | (with_reducible first | exact HB.out | apply below_alloc | apply pw_below_drewN | apply below_drew1 | refine below_set ?_ GE211.out | refine below_set ?_ GE212.out | refine below_set ?_ GE217.out) | exact HB.out)⟩
  ·rw [if_neg c6] at H
   exact absurd H (by simp)
 ·rw [if_neg c5] at H
  have c5b0 : (t216 == 0) = false := beq_eq_false_iff_ne.mpr c5
  have c5b1 : (t216 != 0) = true := bne_iff_ne.mpr c5
  simp only [Option.some.injEq, Prod.mk.injEq] at H
  obtain ⟨rfl, rfl, rfl, rfl⟩ := H
  go_enter Tryd.func31, Tryd.ntmps31
  go_wp2_with (first | ((with_reducible refine gate_dst (N := 3) rfl ?_); refine box_event ?hg (N := 3) ?hd (cs := #[.slice A0_0 l0_0.length c0_0, .string a0_1, .bool a0_2]) (t := 24) ?hr ?_; (case hd => rfl); (case hg => rfl); (case hr => first | (go_simp; done) | (go_simp; rfl)); intro gb211 hg w26 hbox hb; have n0_ := Aside0.mk (below_step bl hb); have n1_ := Aside0.mk (hbox); have n2_ := Aside0.mk ((by rw [hg]; exact (below_size bl) : w.heap.size ≤ gb211)); have n3_ := Aside0.mk ((by rw [hg]; exact (below_size bl) : w.heap.size ≤ gb211)); clear HB; have HB := n0_; have BK211 := n1_; have GW211 := n2_; have GE211 := n3_; clear n0_ n1_ n2_ n3_; clear hb hbox hg) | ((with_reducible refine gate_dst (N := 6) rfl ?_); refine box_event ?hg (N := 6) ?hd (cs := #[.slice none 0 0, .string (⟨#[]⟩ : ByteArray), .bool false]) (t := 24) ?hr ?_; (case hd => rfl); (case hg => rfl); (case hr => first | (go_simp; done) | (go_simp; rfl)); intro gb212 hg w27 hbox hb; have n0_ := Aside0.mk (kb BK211.out hb); have n1_ := Aside0.mk (below_step bl hb); have n2_ := Aside0.mk (hbox); have n3_ := Aside0.mk ((by rw [hg]; exact (below_size bl) : w.heap.size ≤ gb212)); have n4_ := Aside0.mk ((by rw [hg]; exact (below_size bl) : w.heap.size ≤ gb212)); have n5_ := Aside0.mk ((by rw [hg]; exact Nat.ne_of_lt (blk_lt (bk BK211.out)) : gb211 ≠ gb212)); have n6_ := Aside0.mk ((by rw [hg]; exact Nat.ne_of_gt (blk_lt (bk BK211.out)) : gb212 ≠ gb211)); clear BK211; clear HB; have BK211 := n0_; have HB := n1_; have BK212 := n2_; have GW212 := n3_; have GE212 := n4_; have NB211_212 := n5_; have NB212_211 := n6_; clear n0_ n1_ n2_ n3_ n4_ n5_ n6_; clear hb hbox hg) | ((with_reducible refine gate_callee (f := 14) rfl ?_); refine goesL_ (some 13) rfl rfl Tryd.func14 (by kernel_rfl) rfl #[.string a1, .string a2] rfl ml ?_; (with_reducible refine (head_Lay.calls k a1 a2 t213 t214 t215 t216 _ ?side1 A4.out).mono ?_); (case side1 => exact Glob.below HG.out bl); rintro e w28 ⟨rfl, hb⟩; refine ⟨_, rfl, ?_⟩; have n0_ := Aside0.mk (kb BK211.out hb); have n1_ := Aside0.mk (kb BK212.out hb); have n2_ := Aside0.mk (below_step bl hb); clear BK211; clear BK212; clear HB; have BK211 := n0_; have BK212 := n1_; have HB := n2_; clear n0_ n1_ n2_; (try clear hb); (try clear hb2); (try clear hk); (try clear hi)) | ((with_reducible refine gate_dst (N := 8) rfl ?_); refine box_event ?hg (N := 8) ?hd (cs := #[.string (⟨#[]⟩ : ByteArray), .string (⟨#[]⟩ : ByteArray), .string (⟨#[]⟩ : ByteArray)]) (t := 41) ?hr ?_; (case hd => rfl); (case hg => rfl); (case hr => first | (go_simp; done) | (go_simp; rfl)); intro gb217 hg w29 hbox hb; have n0_ := Aside0.mk (kb BK211.out hb); have n1_ := Aside0.mk (kb BK212.out hb); have n2_ := Aside0.mk (below_step bl hb); have n3_ := Aside0.mk (hbox); have n4_ := Aside0.mk ((by rw [hg]; exact (below_size bl) : w.heap.size ≤ gb217)); have n5_ := Aside0.mk ((by rw [hg]; exact (below_size bl) : w.heap.size ≤ gb217)); have n6_ := Aside0.mk ((by rw [hg]; exact Nat.ne_of_lt (blk_lt (bk BK211.out)) : gb211 ≠ gb217)); have n7_ := Aside0.mk ((by rw [hg]; exact Nat.ne_of_gt (blk_lt (bk BK211.out)) : gb217 ≠ gb211)); have n8_ := Aside0.mk ((by rw [hg]; exact Nat.ne_of_lt (blk_lt (bk BK212.out)) : gb212 ≠ gb217)); have n9_ := Aside0.mk ((by rw [hg]; exact Nat.ne_of_gt (blk_lt (bk BK212.out)) : gb217 ≠ gb212)); clear BK211; clear BK212; clear HB; have BK211 := n0_; have BK212 := n1_; have HB := n2_; have BK217 := n3_; have GW217 := n4_; have GE217 := n5_; have NB211_217 := n6_; have NB217_211 := n7_; have NB212_217 := n8_; have NB217_212 := n9_; clear n0_ n1_ n2_ n3_ n4_ n5_ n6_ n7_ n8_ n9_; clear hb hbox hg; have hnb30 := NB217_211.out; have hnc30 := NB211_217.out; have hnb31 := NB217_212.out; have hnc31 := NB212_217.out; have hcz32_0 : w29.cell? ⟨gb217, 0, none⟩ = some (.string (⟨#[]⟩ : ByteArray)) := (blk_cell BK217.out 0).trans rfl; have hcz32_1 : w29.cell? ⟨gb217, 1, none⟩ = some (.string (⟨#[]⟩ : ByteArray)) := (blk_cell BK217.out 1).trans rfl; have hcz32_2 : w29.cell? ⟨gb217, 2, none⟩ = some (.string (⟨#[]⟩ : ByteArray)) := (blk_cell BK217.out 2).trans rfl; have hfz32_0 := blk_frozen BK217.out 0; have hfz32_1 := blk_frozen BK217.out 1; have hfz32_2 := blk_frozen BK217.out 2; have hnb33 := NB212_211.out; have hnc33 := NB211_212.out; have hcz34_0 : w29.cell? ⟨gb212, 0, none⟩ = some (.slice none 0 0) := (blk_cell BK212.out 0).trans rfl; have hcz34_1 : w29.cell? ⟨gb212, 1, none⟩ = some (.string (⟨#[]⟩ : ByteArray)) := (blk_cell BK212.out 1).trans rfl; have hcz34_2 : w29.cell? ⟨gb212, 2, none⟩ = some (.bool false) := (blk_cell BK212.out 2).trans rfl; have hfz34_0 := blk_frozen BK212.out 0; have hfz34_1 := blk_frozen BK212.out 1; have hfz34_2 := blk_frozen BK212.out 2))
  refine bodyPost_ret (results_ct rfl _ _ gb212 24 #[.slice none 0 0, .string (⟨#[]⟩ : ByteArray), .bool false] (0, 0) _ rfl (by (with_reducible repeat (first | refine blk_drewN ?_ _ | refine blk_drew ?_ | refine blk_alloc ?_ _)); refine blk_put (cs := #[.slice none 0 0, .string (⟨#[]⟩ : ByteArray), .bool false]) ?_ 2 _ rfl; (with_reducible repeat (first | refine blk_drewN ?_ _ | refine blk_drew ?_ | refine blk_alloc ?_ _)); refine blk_put (cs := #[.slice none 0 0, .string (⟨#[]⟩ : ByteArray), .bool false]) ?_ 1 _ rfl; (with_reducible repeat (first | refine blk_drewN ?_ _ | refine blk_drew ?_ | refine blk_alloc ?_ _)); refine blk_put (cs := #[.slice none 0 0, .string (⟨#[]⟩ : ByteArray), .bool false]) ?_ 0 _ rfl; (with_reducible repeat (first | refine blk_drewN ?_ _ | refine blk_drew ?_ | refine blk_alloc ?_ _)); refine blk_far ?_ NB212_217.out _; (with_reducible repeat (first | refine blk_drewN ?_ _ | refine blk_drew ?_ | refine blk_alloc ?_ _)); refine blk_far ?_ NB212_217.out _; (with_reducible repeat (first | refine blk_drewN ?_ _ | refine blk_drew ?_ | refine blk_alloc ?_ _)); refine blk_far ?_ NB212_217.out _; (with_reducible repeat (first | refine blk_drewN ?_ _ | refine blk_drew ?_ | refine blk_alloc ?_ _)); exact BK212.out) Tryd.underlying24 rfl (by kernel_rfl)) rfl ?_
  exact ⟨_, by first | rfl | (simp [errW_none, errW_some] <;> rfl) | (simp [*, errW_none, errW_some] <;> rfl), by first | exact Kd.R_nil _ _ _ _ _ | exact Kd.N_nil _ _ _ _ _ | exact Kd.V_nil _ _ _ _ _ | exact Kd.Q_nil _ _ _ _ _ | exact Kd.S_nil _ _ _ _ _, by repeat (first | (with_reducible first | exact HB.out | apply below_alloc | apply pw_below_drewN | apply below_drew1 | refine below_set ?_ GE211.out | refine below_set ?_ GE212.out | refine below_set ?_ GE217.out) | exact HB.out)⟩

/-! ### slices_Clone_head_Field_head_Field: function 70 (by hand) -/
def slices_Clone_head_Field_head_Field.f (l0 : List S41) : Option (List S41) := if l0.length * 48 ≤ 140737488355328 then some l0 else none
set_option maxHeartbeats 1000000 in
set_option maxRecDepth 100000 in
theorem slices_Clone_head_Field_head_Field.calls (A0 : Option Addr) (c0 : Nat) (l0 : List S41) (r : List S41) (w : World) (hr0 : Kd.C k41 w A0 l0.length l0) (hc0 : l0.length ≤ c0) (h : slices_Clone_head_Field_head_Field.f l0 = some r) :
    Calls Tryd.prog 70 #[.slice A0 l0.length c0] w fun e w' => ∃ v0_ : Value, e = .returned (v0_) ∧ Kd.R k41 41 w' w.heap.size (fun _ => True) v0_ r ∧ Below w.heap.size w w' := by
  unfold slices_Clone_head_Field_head_Field.f at h
  by_cases hsz : l0.length * 48 ≤ 140737488355328
  · rw [if_pos hsz] at h
    obtain rfl := Option.some.inj h
    clear h
    have HS := Aside0.mk hsz
    clear hsz
    have HC := Aside0.mk hc0
    have hu := Tryd.underlying22
    clear hc0
    cases A0 with
    | none =>
      have h0 : l0 = [] := by
        rcases Nat.eq_zero_or_pos l0.length with h0 | h0
        · exact List.length_eq_zero_iff.mp h0
        · obtain ⟨ad, h, _⟩ := hr0.2.2 h0
          cases h
      subst h0
      clear hr0
      have hq := fun W => Lib.run_eql_slice_nil (P := Tryd.prog) W 22 41 none 0 c0 0 0 hu
      go_enter Tryd.func70, Tryd.ntmps70
      go_wp2
      go_ret
      exact ⟨_, rfl, Kd.R_nil _ _ _ _ _, Below.refl _ _⟩
    | some ad =>
      have hq := fun W => Lib.run_eql_slice_nil (P := Tryd.prog) W 22 41 (some ad) l0.length c0 0 0 hu
      have HR := Aside0.mk hr0
      clear hr0
      go_enter Tryd.func70, Tryd.ntmps70
      go_wp2_with (first | ((with_reducible refine gate_dst (N := 5) rfl ?_); refine Kd.R_lit k41 w.heap.size 41 rfl (N := 5) rfl (xs := []) (inner := []) (ok := fun _ => True) (okp := fun _ => False) (by first | (go_simp; done) | (go_simp; rfl)) (Reps.none _ _) (fun _ h => h.elim) trivial (Below.refl _ _) (Nat.le_refl _) (by simp) ?_; intro v1 w1 ho1 hb1 hg1 hat1; have HO1 := Aside0.mk ho1; have HB1 := Aside0.mk hb1; clear ho1 hb1 hg1 hat1) | ((with_reducible refine gate_builtin (b := .append) (xs := #[.tmp 5, .tmp 6]) rfl ?_); at_builtin; refine Kd.R_append_rows k41 (w0 := w) w.heap.size rfl (.tmp 5) (.tmp 6) 22 41 (.agg #[(.string ⟨#[]⟩), (.string ⟨#[]⟩), (.string ⟨#[]⟩)]) 48 rfl hu info41 rfl (by decide) (by omega) v1 ([] : List S41) l0 _ _ _ (fun _ => True) (fun _ => False) rfl rfl HO1.out (Kd.C_below HR.out HB1.out) (fun x cs h => by obtain rfl := k41_open h; exact k41_mkM _ _ _ _) (fun _ h => h.elim) (fun _ _ => trivial) HB1.out HB1.out.size (by have := HS.out; simp; omega) ?_; intro v2 w2 ho2 hb2 hg2 hat2))
      go_ret
      exact ⟨_, rfl, by simpa using ho2, hb2⟩
  · rw [if_neg hsz] at h; cases h


/-! ### head_Message_Put: function 33 -/
def head_Message_Put.j0 : Nat → Int → ByteArray → Bool → List (S41) → ByteArray → Bool → Option ((List (S41)) × ByteArray × Bool × Int)
 | 0, _, _, _, _, _, _ => none
 | k + 1, x1, x2, x19, x231000, x231001, x231002 => if x19 = true then (some (([] : List (S41)), (⟨#[]⟩ : ByteArray), false, 1)) else (if 0 ≤ x1 then (if x1 < (x231000.length : Int) then ((head_Lay.f k ((rd_T41 x231000 x1).f0) x2).bind fun bt233 => (if bt233.2.2.2 = 0 then ((slices_Clone_head_Field_head_Field.f x231000).bind fun t238 => (if x1 < (t238.length : Int) then ((head_Message_with.f x231000 x231001 x231002 (t238.set (x1 : Int).toNat (⟨bt233.1, bt233.2.1, bt233.2.2.1⟩ : S41))).bind fun bt242 => (some (bt242.1, bt242.2.1, bt242.2.2.1, bt242.2.2.2))) else (none))) else (some (([] : List (S41)), (⟨#[]⟩ : ByteArray), false, bt233.2.2.2)))) else (none)) else (none))
def head_Message_Put.f (k : Nat) (l0_0 : List (S41)) (a0_1 : ByteArray) (a0_2 : Bool) (a1 : Int) (a2 : ByteArray) : Option ((List (S41)) × ByteArray × Bool × Int) := if a1 < 0 then (head_Message_Put.j0 k a1 a2 true l0_0 a0_1 a0_2) else (head_Message_Put.j0 k a1 a2 (decide (a1 ≥ (l0_0.length : Int))) l0_0 a0_1 a0_2)
theorem head_Message_Put.mono_l : ∀ k, (∀ y0 y1 y2 y3 y4 y5, LeO (head_Message_Put.j0 k y0 y1 y2 y3 y4 y5) (head_Message_Put.j0 (k + 1) y0 y1 y2 y3 y4 y5))
 | 0 => fun _ _ _ _ _ _ r h => by simp [head_Message_Put.j0] at h
 | k + 1 => by
  have ih0 := head_Message_Put.mono_l k
  ·intro y0 y1 y2 y3 y4 y5
   unfold head_Message_Put.j0
   repeat' first
   | (with_reducible exact ih0 _ _ _ _ _ _)
   | (with_reducible exact head_Lay.mono _ _ _)
   | (with_reducible exact LeO.refl _)
   | (with_reducible exact LeO.none _)
   | (with_reducible refine LeO.ite ?_ ?_)
   | (with_reducible refine LeO.bind ?_ (fun _ => ?_))
   | exact ih0 _ _ _ _ _ _
   | exact head_Lay.mono _ _ _
   | exact LeO.none _
   | refine LeO.ite ?_ ?_
   | refine LeO.bind ?_ (fun _ => ?_)
theorem head_Message_Put.mono : ∀ a0 a1 a2 a3 a4 k, LeO (head_Message_Put.f k a0 a1 a2 a3 a4) (head_Message_Put.f (k + 1) a0 a1 a2 a3 a4) := by
 intro a0 a1 a2 a3 a4 k
 have ih0 := head_Message_Put.mono_l k
 unfold head_Message_Put.f
 repeat' first
   | (with_reducible exact ih0 _ _ _ _ _ _)
   | (with_reducible exact head_Lay.mono _ _ _)
   | (with_reducible exact LeO.refl _)
   | (with_reducible exact LeO.none _)
   | (with_reducible refine LeO.ite ?_ ?_)
   | (with_reducible refine LeO.bind ?_ (fun _ => ?_))
   | exact ih0 _ _ _ _ _ _
   | exact head_Lay.mono _ _ _
   | exact LeO.none _
   | refine LeO.ite ?_ ?_
   | refine LeO.bind ?_ (fun _ => ?_)
set_option maxHeartbeats 8000000 in
set_option maxRecDepth 100000 in
theorem head_Message_Put.calls (k : Nat) (A0_0 : Option Addr) (c0_0 : Nat) (l0_0 : List (S41)) (a0_1 : ByteArray) (a0_2 : Bool) (a1 : Int) (a2 : ByteArray) (r1 : List (S41)) (r2 : ByteArray) (r3 : Bool) (r4 : Int) (w : World) (hr0_0 : Kd.C k41 w A0_0 l0_0.length l0_0) (hc0_0 : l0_0.length ≤ c0_0) (hG : Glob w) (h : head_Message_Put.f k l0_0 a0_1 a0_2 a1 a2 = some (r1, r2, r3, r4)) :
  Calls Tryd.prog 33 #[.agg #[.slice A0_0 l0_0.length c0_0, .string a0_1, .bool a0_2], .int .i64 a1, .string a2] w fun e w' => ∃ v0_ : Value, e = .returned (.tuple #[.agg #[v0_, .string r2, .bool r3], .int .i64 r4]) ∧ Kd.R k41 41 w' w.heap.size (fun _ => True) v0_ r1 ∧ Below w.heap.size w w' := by
 have hu24 := Tryd.underlying24
 have hu41 := Tryd.underlying41
 have HR0_0 := Aside0.mk hr0_0
 have HC0_0 := Aside0.mk hc0_0
 clear hr0_0 hc0_0
 have HB := Aside0.mk (Below.refl w.heap.size w)
 have HG := Aside0.mk hG
 clear hG
 have H : (if a1 < 0 then (head_Message_Put.j0 k a1 a2 true l0_0 a0_1 a0_2) else (head_Message_Put.j0 k a1 a2 (decide (a1 ≥ (l0_0.length : Int))) l0_0 a0_1 a0_2)) = some (r1, r2, r3, r4) := h
 clear h
 have HC4 := Aside0.mk H
 clear H
 go_enter Tryd.func33, Tryd.ntmps33
 go_upto_region 1 with (first | ((with_reducible refine gate_dst (N := 3) rfl ?_); (try (refine gate_guard (by rfl) ?_; dsimp only)); refine box_event ?hg (N := 3) ?hd (cs := #[.slice A0_0 l0_0.length c0_0, .string a0_1, .bool a0_2]) (t := 24) ?hr ?_; (case hd => rfl); (case hg => rfl); (case hr => first | (go_simp; done) | (go_simp; rfl)); intro gb230 hg w5 hbox hb; have n0_ := Aside0.mk (below_step bl hb); have n1_ := Aside0.mk (hbox); have n2_ := Aside0.mk ((by rw [hg]; exact (below_size bl) : w.heap.size ≤ gb230)); have n3_ := Aside0.mk ((by rw [hg]; exact (below_size bl) : w.heap.size ≤ gb230)); clear HB; have HB := n0_; have BK230 := n1_; have GW230 := n2_; have GE230 := n3_; clear n0_ n1_ n2_ n3_; clear hb hbox hg) | ((with_reducible refine gate_dst (N := 6) rfl ?_); (try (refine gate_guard (by rfl) ?_; dsimp only)); refine box_event ?hg (N := 6) ?hd (cs := #[.slice none 0 0, .string (⟨#[]⟩ : ByteArray), .bool false]) (t := 24) ?hr ?_; (case hd => rfl); (case hg => rfl); (case hr => first | (go_simp; done) | (go_simp; rfl)); intro gb231 hg w6 hbox hb; have n0_ := Aside0.mk (kb BK230.out hb); have n1_ := Aside0.mk (below_step bl hb); have n2_ := Aside0.mk (hbox); have n3_ := Aside0.mk ((by rw [hg]; exact (below_size bl) : w.heap.size ≤ gb231)); have n4_ := Aside0.mk ((by rw [hg]; exact (below_size bl) : w.heap.size ≤ gb231)); have n5_ := Aside0.mk ((by rw [hg]; exact Nat.ne_of_lt (blk_lt (bk BK230.out)) : gb230 ≠ gb231)); have n6_ := Aside0.mk ((by rw [hg]; exact Nat.ne_of_gt (blk_lt (bk BK230.out)) : gb231 ≠ gb230)); clear BK230; clear HB; have BK230 := n0_; have HB := n1_; have BK231 := n2_; have GW231 := n3_; have GE231 := n4_; have NB230_231 := n5_; have NB231_230 := n6_; clear n0_ n1_ n2_ n3_ n4_ n5_ n6_; clear hb hbox hg))
 (try simp only [Act.put, List.setIfInBounds_toArray, List.set_cons_zero, List.set_cons_succ])
 go_cut [19] (fun v19 wc => ∃ (kq : Nat) (x19_3 : Bool), v19 = .bool x19_3 ∧ Aside0 (head_Message_Put.j0 kq a1 a2 x19_3 l0_0 a0_1 a0_2 = some (r1, r2, r3, r4)) ∧ Aside0 (kq ≤ k) ∧ Aside0 (wc.heap[gb230]? = some (.cells #[(.slice A0_0 l0_0.length c0_0), .string a0_1, .bool a0_2] 24 (0, 0))) ∧ Aside0 (wc.heap[gb231]? = some (.cells #[(.slice none 0 0), .string (⟨#[]⟩ : ByteArray), .bool false] 24 (0, 0))) ∧ Aside0 (Below w.heap.size w wc))
 case first =>
  have H := HC4.out
  clear HC4
  by_cases c7 : a1 < 0
  ·rw [if_pos c7] at H
   have c7b0 : decide (a1 < 0) = true := decide_eq_true c7
   clear c7
   (first | rw [c7b0] | (simp only [i64_w, i32_w]; rw [c7b0]) | skip)
   have H' := Aside0.mk H
   clear H
   go_wp2
   go_meet
   case rel => exact ⟨_, (true), (by first | rfl | (simp; done) | (simp [*]; done)), H', ⟨by first | omega | exact Nat.le_refl _⟩, ⟨by (with_reducible repeat (first | refine blk_drewN ?_ _ | refine blk_drew ?_ | refine blk_alloc ?_ _)); exact BK230.out⟩, ⟨by (with_reducible repeat (first | refine blk_drewN ?_ _ | refine blk_drew ?_ | refine blk_alloc ?_ _)); exact BK231.out⟩, ⟨by repeat (first | (with_reducible first | exact HB.out | apply below_alloc | apply pw_below_drewN | apply below_drew1 | refine below_set ?_ GE230.out | refine below_set ?_ GE231.out) | exact HB.out)⟩⟩
  ·rw [if_neg c7] at H
   have c7b0 : decide (a1 < 0) = false := decide_eq_false c7
   clear c7
   (first | rw [c7b0] | (simp only [i64_w, i32_w]; rw [c7b0]) | skip)
   have H' := Aside0.mk H
   clear H
   have hnb8 := NB230_231.out
   have hnc8 := NB231_230.out
   have hcz9_0 : w6.cell? ⟨gb230, 0, none⟩ = some (.slice A0_0 l0_0.length c0_0) := (blk_cell BK230.out 0).trans rfl
   have hcz9_1 : w6.cell? ⟨gb230, 1, none⟩ = some (.string a0_1) := (blk_cell BK230.out 1).trans rfl
   have hcz9_2 : w6.cell? ⟨gb230, 2, none⟩ = some (.bool a0_2) := (blk_cell BK230.out 2).trans rfl
   have hfz9_0 := blk_frozen BK230.out 0
   have hfz9_1 := blk_frozen BK230.out 1
   have hfz9_2 := blk_frozen BK230.out 2
   go_wp2
   go_meet
   case rel => exact ⟨_, (decide (a1 ≥ (l0_0.length : Int))), (by first | rfl | (simp; done) | (simp [*]; done)), H', ⟨by first | omega | exact Nat.le_refl _⟩, ⟨by (with_reducible repeat (first | refine blk_drewN ?_ _ | refine blk_drew ?_ | refine blk_alloc ?_ _)); exact BK230.out⟩, ⟨by (with_reducible repeat (first | refine blk_drewN ?_ _ | refine blk_drew ?_ | refine blk_alloc ?_ _)); exact BK231.out⟩, ⟨by repeat (first | (with_reducible first | exact HB.out | apply below_alloc | apply pw_below_drewN | apply below_drew1 | refine below_set ?_ GE230.out | refine below_set ?_ GE231.out) | exact HB.out)⟩⟩
 case rest =>
  clear HC4
  try clear p2
  try clear c3
  try clear c7
  try clear c7b0
  try clear c8
  try clear hcz9_0
  try clear hcz9_1
  try clear hcz9_2
  try clear hfz9_0
  try clear hfz9_1
  try clear hfz9_2
  obtain ⟨kq, x19_3, rfl, HA, HJ3, BK230, BK231, HB⟩ := hcut
  cases kq with
  | zero => exact absurd HA.out (by simp [head_Message_Put.j0])
  | succ kj3 =>
   have H := HA.out
   clear HA
   simp only [head_Message_Put.j0] at H
   by_cases c10 : x19_3 = true
   ·subst c10
    have H1 : (some (([] : List (S41)), (⟨#[]⟩ : ByteArray), false, 1)) = some (r1, r2, r3, r4) := by rw [if_pos rfl] at H; exact H
    clear H
    have H := H1
    clear H1
    simp only [Option.some.injEq, Prod.mk.injEq] at H
    obtain ⟨rfl, rfl, rfl, rfl⟩ := H
    have hnb11 := NB231_230.out
    have hnc11 := NB230_231.out
    have hcz12_0 : wc.cell? ⟨gb231, 0, none⟩ = some (.slice none 0 0) := (blk_cell BK231.out 0).trans rfl
    have hcz12_1 : wc.cell? ⟨gb231, 1, none⟩ = some (.string (⟨#[]⟩ : ByteArray)) := (blk_cell BK231.out 1).trans rfl
    have hcz12_2 : wc.cell? ⟨gb231, 2, none⟩ = some (.bool false) := (blk_cell BK231.out 2).trans rfl
    have hfz12_0 := blk_frozen BK231.out 0
    have hfz12_1 := blk_frozen BK231.out 1
    have hfz12_2 := blk_frozen BK231.out 2
    go_wp2
    refine bodyPost_ret (results_ct rfl _ _ gb231 24 #[.slice none 0 0, .string (⟨#[]⟩ : ByteArray), .bool false] (0, 0) _ rfl (by (with_reducible repeat (first | refine blk_drewN ?_ _ | refine blk_drew ?_ | refine blk_alloc ?_ _)); refine blk_put (cs := #[.slice none 0 0, .string (⟨#[]⟩ : ByteArray), .bool false]) ?_ 2 _ rfl; (with_reducible repeat (first | refine blk_drewN ?_ _ | refine blk_drew ?_ | refine blk_alloc ?_ _)); refine blk_put (cs := #[.slice none 0 0, .string (⟨#[]⟩ : ByteArray), .bool false]) ?_ 1 _ rfl; (with_reducible repeat (first | refine blk_drewN ?_ _ | refine blk_drew ?_ | refine blk_alloc ?_ _)); refine blk_put (cs := #[.slice none 0 0, .string (⟨#[]⟩ : ByteArray), .bool false]) ?_ 0 _ rfl; (with_reducible repeat (first | refine blk_drewN ?_ _ | refine blk_drew ?_ | refine blk_alloc ?_ _)); exact BK231.out) Tryd.underlying24 rfl (by kernel_rfl)) rfl ?_
    exact ⟨_, by first | rfl | (simp [errW_none, errW_some] <;> rfl) | (simp [*, errW_none, errW_some] <;> rfl), by first | exact Kd.R_nil _ _ _ _ _ | exact Kd.N_nil _ _ _ _ _ | exact Kd.V_nil _ _ _ _ _ | exact Kd.Q_nil _ _ _ _ _ | exact Kd.S_nil _ _ _ _ _, by repeat (first | (with_reducible first | exact HB.out | apply below_alloc | apply pw_below_drewN | apply below_drew1 | refine below_set ?_ GE230.out | refine below_set ?_ GE231.out) | exact HB.out)⟩
   ·replace c10 := Bool.eq_false_iff.mpr c10
    subst c10
    have H1 : (if 0 ≤ a1 then (if a1 < (l0_0.length : Int) then ((head_Lay.f kj3 ((rd_T41 l0_0 a1).f0) a2).bind fun bt233 => (if bt233.2.2.2 = 0 then ((slices_Clone_head_Field_head_Field.f l0_0).bind fun t238 => (if a1 < (t238.length : Int) then ((head_Message_with.f l0_0 a0_1 a0_2 (t238.set (a1 : Int).toNat (⟨bt233.1, bt233.2.1, bt233.2.2.1⟩ : S41))).bind fun bt242 => (some (bt242.1, bt242.2.1, bt242.2.2.1, bt242.2.2.2))) else (none))) else (some (([] : List (S41)), (⟨#[]⟩ : ByteArray), false, bt233.2.2.2)))) else (none)) else (none)) = some (r1, r2, r3, r4) := by rw [if_neg (show ¬ (false = true) by decide)] at H; exact H
    clear H
    have H := H1
    clear H1
    by_cases c13 : 0 ≤ a1
    ·rw [if_pos c13] at H
     have c13b0 : decide (0 ≤ a1) = true := decide_eq_true c13
     clear c13
     by_cases c14 : a1 < (l0_0.length : Int)
     ·rw [if_pos c14] at H
      have c14b0 : decide (a1 < (l0_0.length : Int)) = true := decide_eq_true c14
      clear c14
      replace H := Option.bind_eq_some_iff.mp H
      obtain ⟨⟨t233, t234, t235, t236⟩, A150, H⟩ := H
      replace H : (if t236 = 0 then ((slices_Clone_head_Field_head_Field.f l0_0).bind fun t238 => (if a1 < (t238.length : Int) then ((head_Message_with.f l0_0 a0_1 a0_2 (t238.set (a1 : Int).toNat (⟨t233, t234, t235⟩ : S41))).bind fun bt242 => (some (bt242.1, bt242.2.1, bt242.2.2.1, bt242.2.2.2))) else (none))) else (some (([] : List (S41)), (⟨#[]⟩ : ByteArray), false, t236))) = some (r1, r2, r3, r4) := H
      have A15 := Aside0.mk A150
      clear A150
      by_cases c16 : t236 = 0
      ·rw [if_pos c16] at H
       have c16b0 : (t236 == 0) = true := beq_iff_eq.mpr c16
       have c16b1 : (t236 != 0) = false := bne_eq_false_iff_eq.mpr c16
       clear c16
       replace H := Option.bind_eq_some_iff.mp H
       obtain ⟨t238, A170, H⟩ := H
       replace H : (if a1 < (t238.length : Int) then ((head_Message_with.f l0_0 a0_1 a0_2 (t238.set (a1 : Int).toNat (⟨t233, t234, t235⟩ : S41))).bind fun bt242 => (some (bt242.1, bt242.2.1, bt242.2.2.1, bt242.2.2.2))) else (none)) = some (r1, r2, r3, r4) := H
       have A17 := Aside0.mk A170
       clear A170
       by_cases c18 : a1 < (t238.length : Int)
       ·rw [if_pos c18] at H
        have c18b0 : decide (a1 < (t238.length : Int)) = true := decide_eq_true c18
        clear c18
        obtain ⟨y241, hy241⟩ : ∃ y_ : List (S41), y_ = (t238.set (a1 : Int).toNat (⟨t233, t234, t235⟩ : S41)) := ⟨_, rfl⟩
        replace H : ((head_Message_with.f l0_0 a0_1 a0_2 y241).bind fun bt242 => (some (bt242.1, bt242.2.1, bt242.2.2.1, bt242.2.2.2))) = some (r1, r2, r3, r4) := by first | (rw [hy241]; with_reducible exact H) | (have H2_ := (Option.bind_some _ _).symm.trans H; rw [hy241]; with_reducible exact H2_) | (have H2_ := (Option.bind_some _ _).symm.trans H; with_reducible exact H2_) | with_reducible exact H | (rw [hy241]; exact H) | exact H
        have Ny241 := Aside0.mk hy241
        clear hy241
        replace H := Option.bind_eq_some_iff.mp H
        obtain ⟨⟨t242, t245, t246, t247⟩, A200, H⟩ := H
        replace H : (some (t242, t245, t246, t247)) = some (r1, r2, r3, r4) := H
        have A20 := Aside0.mk A200
        clear A200
        simp only [Option.some.injEq, Prod.mk.injEq] at H
        obtain ⟨rfl, rfl, rfl, rfl⟩ := H
        have hnb21 := NB230_231.out
        have hnc21 := NB231_230.out
        have hcz22_0 : wc.cell? ⟨gb230, 0, none⟩ = some (.slice A0_0 l0_0.length c0_0) := (blk_cell BK230.out 0).trans rfl
        have hcz22_1 : wc.cell? ⟨gb230, 1, none⟩ = some (.string a0_1) := (blk_cell BK230.out 1).trans rfl
        have hcz22_2 : wc.cell? ⟨gb230, 2, none⟩ = some (.bool a0_2) := (blk_cell BK230.out 2).trans rfl
        have hfz22_0 := blk_frozen BK230.out 0
        have hfz22_1 := blk_frozen BK230.out 1
        have hfz22_2 := blk_frozen BK230.out 2
        have p232 : 0 ≤ (a1 : Int) := od
        have q232 : a1 < (l0_0.length : Int) := od
        obtain ⟨ad232, e232, hx232_0, hx232_1, hx232_2⟩ := at_T41 HR0_0.out a1 p232 q232
        cases e232
        replace hx232_0 := (HB.out.cell (World.block_lt_of_cell? w _ hx232_0)).trans hx232_0
        replace hx232_1 := (HB.out.cell (World.block_lt_of_cell? w _ hx232_1)).trans hx232_1
        replace hx232_2 := (HB.out.cell (World.block_lt_of_cell? w _ hx232_2)).trans hx232_2
        replace p232 := eq_true p232
        replace q232 := eq_true q232
        go_wp2_with (first | ((with_reducible refine gate_callee (f := 14) rfl ?_); refine goesL_ (some 29) rfl rfl Tryd.func14 (by kernel_rfl) rfl #[.string ((rd_T41 l0_0 a1).f0), .string a2] rfl ml ?_; (with_reducible refine (head_Lay.calls kj3 ((rd_T41 l0_0 a1).f0) a2 t233 t234 t235 t236 _ ?side1 A15.out).mono ?_); (case side1 => exact Glob.below HG.out bl); rintro e w23 ⟨rfl, hb⟩; refine ⟨_, rfl, ?_⟩; have n0_ := Aside0.mk (kb BK230.out hb); have n1_ := Aside0.mk (kb BK231.out hb); have n2_ := Aside0.mk (below_step bl hb); clear BK230; clear BK231; clear HB; have BK230 := n0_; have BK231 := n1_; have HB := n2_; clear n0_ n1_ n2_; (try clear hb); (try clear hb2); (try clear hk); (try clear hi)) | ((with_reducible refine gate_dst (N := 8) rfl ?_); (try (refine gate_guard (by rfl) ?_; dsimp only)); refine box_event ?hg (N := 8) ?hd (cs := #[.string (⟨#[]⟩ : ByteArray), .string (⟨#[]⟩ : ByteArray), .string (⟨#[]⟩ : ByteArray)]) (t := 41) ?hr ?_; (case hd => rfl); (case hg => rfl); (case hr => first | (go_simp; done) | (go_simp; rfl)); intro gb237 hg w24 hbox hb; have n0_ := Aside0.mk (kb BK230.out hb); have n1_ := Aside0.mk (kb BK231.out hb); have n2_ := Aside0.mk (below_step bl hb); have n3_ := Aside0.mk (hbox); have n4_ := Aside0.mk ((by rw [hg]; exact (below_size bl) : w.heap.size ≤ gb237)); have n5_ := Aside0.mk ((by rw [hg]; exact (below_size bl) : w.heap.size ≤ gb237)); have n6_ := Aside0.mk ((by rw [hg]; exact Nat.ne_of_lt (blk_lt (bk BK230.out)) : gb230 ≠ gb237)); have n7_ := Aside0.mk ((by rw [hg]; exact Nat.ne_of_gt (blk_lt (bk BK230.out)) : gb237 ≠ gb230)); have n8_ := Aside0.mk ((by rw [hg]; exact Nat.ne_of_lt (blk_lt (bk BK231.out)) : gb231 ≠ gb237)); have n9_ := Aside0.mk ((by rw [hg]; exact Nat.ne_of_gt (blk_lt (bk BK231.out)) : gb237 ≠ gb231)); clear BK230; clear BK231; clear HB; have BK230 := n0_; have BK231 := n1_; have HB := n2_; have BK237 := n3_; have GW237 := n4_; have GE237 := n5_; have NB230_237 := n6_; have NB237_230 := n7_; have NB231_237 := n8_; have NB237_231 := n9_; clear n0_ n1_ n2_ n3_ n4_ n5_ n6_ n7_ n8_ n9_; clear hb hbox hg; have hnb25 := NB237_230.out; have hnc25 := NB230_237.out; have hnb26 := NB237_231.out; have hnc26 := NB231_237.out; have hcz27_0 : w24.cell? ⟨gb237, 0, none⟩ = some (.string (⟨#[]⟩ : ByteArray)) := (blk_cell BK237.out 0).trans rfl; have hcz27_1 : w24.cell? ⟨gb237, 1, none⟩ = some (.string (⟨#[]⟩ : ByteArray)) := (blk_cell BK237.out 1).trans rfl; have hcz27_2 : w24.cell? ⟨gb237, 2, none⟩ = some (.string (⟨#[]⟩ : ByteArray)) := (blk_cell BK237.out 2).trans rfl; have hfz27_0 := blk_frozen BK237.out 0; have hfz27_1 := blk_frozen BK237.out 1; have hfz27_2 := blk_frozen BK237.out 2; have hcz28_0 : w24.cell? ⟨gb230, 0, none⟩ = some (.slice (some ad232) l0_0.length c0_0) := (blk_cell BK230.out 0).trans rfl; have hcz28_1 : w24.cell? ⟨gb230, 1, none⟩ = some (.string a0_1) := (blk_cell BK230.out 1).trans rfl; have hcz28_2 : w24.cell? ⟨gb230, 2, none⟩ = some (.bool a0_2) := (blk_cell BK230.out 2).trans rfl; have hfz28_0 := blk_frozen BK230.out 0; have hfz28_1 := blk_frozen BK230.out 1; have hfz28_2 := blk_frozen BK230.out 2) | ((with_reducible refine gate_callee (f := 70) rfl ?_); refine goesL_ (some 38) rfl rfl Tryd.func70 (by kernel_rfl) rfl #[.slice (some ad232) l0_0.length c0_0] rfl ml ?_; (with_reducible refine (slices_Clone_head_Field_head_Field.calls _ _ l0_0 t238 _ ?side1 ?side2 A17.out).mono ?_); (case side1 => exact Kd.C_below HR0_0.out bl); (case side2 => exact HC0_0.out); rintro e w29 ⟨v239, rfl, ho0, hb⟩; refine ⟨_, rfl, ?_⟩; have n0_ := Aside0.mk (Kd.R_lower (Kd.R_newB ho0 (g := gb237) (o := .cells #[.string t233, .string t234, .string t235] 41 (0, 0)) (by (with_reducible repeat (first | refine blk_drewN ?_ _ | refine blk_drew ?_ | refine blk_alloc ?_ _)); refine blk_put (cs := #[.string t233, .string t234, .string (⟨#[]⟩ : ByteArray)]) ?_ 2 _ rfl; (with_reducible repeat (first | refine blk_drewN ?_ _ | refine blk_drew ?_ | refine blk_alloc ?_ _)); refine blk_put (cs := #[.string t233, .string (⟨#[]⟩ : ByteArray), .string (⟨#[]⟩ : ByteArray)]) ?_ 1 _ rfl; (with_reducible repeat (first | refine blk_drewN ?_ _ | refine blk_drew ?_ | refine blk_alloc ?_ _)); refine blk_put (cs := #[.string (⟨#[]⟩ : ByteArray), .string (⟨#[]⟩ : ByteArray), .string (⟨#[]⟩ : ByteArray)]) ?_ 0 _ rfl; (with_reducible repeat (first | refine blk_drewN ?_ _ | refine blk_drew ?_ | refine blk_alloc ?_ _)); exact BK237.out)) (below_size bl)); have n1_ := Aside0.mk (kb BK230.out hb); have n2_ := Aside0.mk (kb BK231.out hb); have n3_ := Aside0.mk (blk_below (g := gb237) (o := .cells #[.string t233, .string t234, .string t235] 41 (0, 0)) (by (with_reducible repeat (first | refine blk_drewN ?_ _ | refine blk_drew ?_ | refine blk_alloc ?_ _)); refine blk_put (cs := #[.string t233, .string t234, .string (⟨#[]⟩ : ByteArray)]) ?_ 2 _ rfl; (with_reducible repeat (first | refine blk_drewN ?_ _ | refine blk_drew ?_ | refine blk_alloc ?_ _)); refine blk_put (cs := #[.string t233, .string (⟨#[]⟩ : ByteArray), .string (⟨#[]⟩ : ByteArray)]) ?_ 1 _ rfl; (with_reducible repeat (first | refine blk_drewN ?_ _ | refine blk_drew ?_ | refine blk_alloc ?_ _)); refine blk_put (cs := #[.string (⟨#[]⟩ : ByteArray), .string (⟨#[]⟩ : ByteArray), .string (⟨#[]⟩ : ByteArray)]) ?_ 0 _ rfl; (with_reducible repeat (first | refine blk_drewN ?_ _ | refine blk_drew ?_ | refine blk_alloc ?_ _)); exact BK237.out) hb); have n4_ := Aside0.mk (below_step bl hb); clear BK230; clear BK231; clear BK237; clear HB; have HO240 := n0_; have BK230 := n1_; have BK231 := n2_; have BK237 := n3_; have HB := n4_; clear n0_ n1_ n2_ n3_ n4_; (try clear hb); (try clear hb2); (try clear hk); (try clear hi); (try clear ho0); have hcz30_0 : w29.cell? ⟨gb237, 0, none⟩ = some (.string t233) := (blk_cell BK237.out 0).trans rfl; have hcz30_1 : w29.cell? ⟨gb237, 1, none⟩ = some (.string t234) := (blk_cell BK237.out 1).trans rfl; have hcz30_2 : w29.cell? ⟨gb237, 2, none⟩ = some (.string t235) := (blk_cell BK237.out 2).trans rfl; have hfz30_0 := blk_frozen BK237.out 0; have hfz30_1 := blk_frozen BK237.out 1; have hfz30_2 := blk_frozen BK237.out 2; have p19 : 0 ≤ (a1 : Int) := od; have q19 : (a1 : Int) < ((t238.length : Int) : Int) := od; obtain ⟨go19, co19, eo19, gb19, gl19, cl19, HG19⟩ := Kd.R_form HO240.out (by omega); (first | cases eo19 | (injection eo19 with ea_ en_ ec_; (first | subst ea_ | (injection ea_ with ea_; subst ea_)); subst ec_; clear en_)); have GB19 := Aside0.mk gb19; have GG19 := Aside0.mk HG19; clear gb19 gl19 HG19; obtain ⟨ce19, hcl19, hM19, hcc19, hfr19⟩ := Kd.R_elem HO240.out z41 (a1 : Int) p19 q19; obtain rfl := k41_openM hM19; have hx19_0 : w29.cell? ⟨go19, (a1 : Int).toNat * 3, none⟩ = some (.string ((rd_T41 t238 a1).f0)) := hcc19 0 _ rfl; have hx19_1 : w29.cell? ⟨go19, (a1 : Int).toNat * 3 + 1, none⟩ = some (.string ((rd_T41 t238 a1).f1)) := hcc19 1 _ rfl; have hx19_2 : w29.cell? ⟨go19, (a1 : Int).toNat * 3 + 2, none⟩ = some (.string ((rd_T41 t238 a1).f2)) := hcc19 2 _ rfl; have hf19_0 : w29.frozen? ⟨go19, (a1 : Int).toNat * 3, none⟩ = false := hfr19 0; have hf19_1 : w29.frozen? ⟨go19, (a1 : Int).toNat * 3 + 1, none⟩ = false := hfr19 1; have hf19_2 : w29.frozen? ⟨go19, (a1 : Int).toNat * 3 + 2, none⟩ = false := hfr19 2; clear hcl19 hcc19 hfr19 hM19; replace p19 := eq_true p19; replace q19 := eq_true q19; have n_ := Aside0.mk (Kd.R_mono (ok' := (fun k_ => k_ ≠ gb237)) HO240.out (fun k_ hk => hk.2)); clear HO240; have HO240 := n_; clear n_; have HX31 := Aside0.mk (show Kd.R k41 41 w29 w.heap.size (fun k_ => k_ ≠ gb237) (.slice (some ⟨go19, 0, none⟩) t238.length co19) t238 from (kr HO240.out)); obtain ⟨ce31, hcl31, hM31, hcc31, hfr31⟩ := Kd.R_elem HX31.out z41 (a1 : Int) (od) (by have h_ : (a1 : Int) < ((t238.length : Int) : Int) := od; first | exact h_ | (have e_ := (Kd.R_reads' HO240.out).1; omega) | simpa using h_); obtain rfl := k41_openM hM31; have HP31 := Kd.R_seg HX31.out (a1 : Int) (od) (by have h_ : (a1 : Int) < ((t238.length : Int) : Int) := od; first | exact h_ | (have e_ := (Kd.R_reads' HO240.out).1; omega) | simpa using h_) (seg := [.string t233, .string t234, .string t235]) (j := 0) hcl31 hcc31 (show 3 ≤ 3 from by decide) (x' := (⟨t233, t234, t235⟩ : S41)) (k41_mkM _ _ _ (⟨t233, t234, t235⟩ : S41) ) (fun _ hk => hk); have hx31_0 := hcc31 0 _ rfl; (try simp only [show (k41).sz = 3 from rfl, Nat.mul_one, Nat.add_zero] at hx31_0); have hf31_0 := hfr31 0; (try simp only [show (k41).sz = 3 from rfl, Nat.mul_one, Nat.add_zero] at hf31_0); have hx31_1 := hcc31 1 _ rfl; (try simp only [show (k41).sz = 3 from rfl, Nat.mul_one, Nat.add_zero] at hx31_1); have hf31_1 := hfr31 1; (try simp only [show (k41).sz = 3 from rfl, Nat.mul_one, Nat.add_zero] at hf31_1); have hx31_2 := hcc31 2 _ rfl; (try simp only [show (k41).sz = 3 from rfl, Nat.mul_one, Nat.add_zero] at hx31_2); have hf31_2 := hfr31 2; (try simp only [show (k41).sz = 3 from rfl, Nat.mul_one, Nat.add_zero] at hf31_2); clear hcl31 hcc31 hfr31 hM31) | ((with_reducible refine gate_store (t := 41) (p := 42) rfl ?_); refine store_event (t := 41) (p := 42) (v := ?vo_w32) (w1 := (((w29.setCell ⟨go19, (a1 : Int).toNat * 3, none⟩ (.string t233)).setCell ⟨go19, (a1 : Int).toNat * 3 + 1, none⟩ (.string t234)).setCell ⟨go19, (a1 : Int).toNat * 3 + 2, none⟩ (.string t235))) ?hg ?ho ?hn ?hr ?_; (case ho => rfl); (case hg => rfl); (case hn => rfl); (case hr => first | (go_simp; done) | (go_simp; rfl)); intro w32 hw; have hg : w29.grownBy w32 (some go19) := (by rw [hw]; exact HP31.2); have hp_ : Kd.R k41 41 w32 w.heap.size (fun k_ => k_ ≠ gb237) (.slice (some ⟨go19, 0, none⟩) t238.length co19) y241 := (by rw [hw, Ny241.out]; exact HP31.1); clear HP31; have n0_ := Aside0.mk (blk_grown (g := gb230) (o := .cells #[.slice (some ad232) l0_0.length c0_0, .string a0_1, .bool a0_2] 24 (0, 0)) (bk BK230.out) hg (Kd.R_ne HO240.out BK230.out (by decide))); have n1_ := Aside0.mk (blk_grown (g := gb231) (o := .cells #[.slice none 0 0, .string (⟨#[]⟩ : ByteArray), .bool false] 24 (0, 0)) (bk BK231.out) hg (Kd.R_ne HO240.out BK231.out (by decide))); have n2_ := Aside0.mk (blk_grown (g := gb237) (o := .cells #[.string t233, .string t234, .string t235] 41 (0, 0)) (bk BK237.out) hg (Kd.R_away HO240.out (fun _ hk => hk))); have n3_ := Aside0.mk (hp_); have n4_ := Aside0.mk ((by rw [hw]; exact below_set (below_set (below_set (HB.out) GB19.out) GB19.out) GB19.out : Below w.heap.size w w32)); clear BK230; clear BK231; clear BK237; clear HO240; clear HB; have BK230 := n0_; have BK231 := n1_; have BK237 := n2_; have HO240 := n3_; have HB := n4_; clear n0_ n1_ n2_ n3_ n4_; clear hg hw hp_; have hcz33_0 : w32.cell? ⟨gb230, 0, none⟩ = some (.slice (some ad232) l0_0.length c0_0) := (blk_cell BK230.out 0).trans rfl; have hcz33_1 : w32.cell? ⟨gb230, 1, none⟩ = some (.string a0_1) := (blk_cell BK230.out 1).trans rfl; have hcz33_2 : w32.cell? ⟨gb230, 2, none⟩ = some (.bool a0_2) := (blk_cell BK230.out 2).trans rfl; have hfz33_0 := blk_frozen BK230.out 0; have hfz33_1 := blk_frozen BK230.out 1; have hfz33_2 := blk_frozen BK230.out 2) | ((with_reducible refine gate_callee (f := 68) rfl ?_); refine goesL_ (some 45) rfl rfl Tryd.func68 (by kernel_rfl) rfl #[.agg #[.slice (some ad232) l0_0.length c0_0, .string a0_1, .bool a0_2], .slice (some ⟨go19, 0, none⟩) t238.length co19] rfl ml ?_; (with_reducible refine (head_Message_with.calls _ _ l0_0 a0_1 a0_2 (fun k_ => some k_ = (.slice (some ⟨go19, 0, none⟩) t238.length co19 : Value).ownBlock) (.slice (some ⟨go19, 0, none⟩) t238.length co19) y241 t242 t245 t246 t247 w _ ?side1 ?side2 ?side3 ?side4 A20.out).mono ?_); (case side1 => repeat (first | (with_reducible first | exact HB.out | apply below_alloc | apply pw_below_drewN | apply below_drew1 | refine below_set ?_ GE230.out | refine below_set ?_ GE231.out | refine below_set ?_ GE237.out) | exact HB.out)); (case side2 => exact Kd.C_kept_came k41_heap HR0_0.out bl (fun k_ hs_ => (fun e_ => Kd.R_base HO240.out k_ e_.symm) hs_)); (case side3 => exact HC0_0.out); (case side4 => exact Kd.R_tight rfl HO240.out); rintro e w34 ⟨v243, rfl, ho0, hb, hkp⟩; refine ⟨_, rfl, ?_⟩; have n0_ := Aside0.mk (blk_kept (bk BK230.out) hkp (fun hs_ => (fun e_ => (Kd.R_ne HO240.out BK230.out (by decide)) e_) hs_)); have n1_ := Aside0.mk (blk_kept (bk BK231.out) hkp (fun hs_ => (fun e_ => (Kd.R_ne HO240.out BK231.out (by decide)) e_) hs_)); have n2_ := Aside0.mk (blk_kept (bk BK237.out) hkp (fun hs_ => (fun e_ => (Kd.R_away HO240.out (fun _ hk => hk)) e_) hs_)); have n3_ := Aside0.mk (Kd.R_mono (ok' := fun k_ => k_ ≠ gb237) ho0 (fun k_ hk_ => Or.elim hk_ (fun hs_ => fun e_ => (Kd.R_away HO240.out (fun _ hk => hk)) (by rw [← e_]; exact hs_)) (fun hn_ => (Kd.freshB (g := gb237) (o := .cells #[.string t233, .string t234, .string t235] 41 (0, 0)) (bk BK237.out) k_ hn_)))); have n4_ := Aside0.mk (hb); clear BK230; clear BK231; clear BK237; clear HB; clear HO240; have BK230 := n0_; have BK231 := n1_; have BK237 := n2_; have HO244 := n3_; have HB := n4_; clear n0_ n1_ n2_ n3_ n4_; (try clear hb); (try clear hkp); (try clear ho0); obtain ⟨Ao35, co35, eo35⟩ := Kd.R_slice HO244.out; subst eo35; have hcz36_0 : w34.cell? ⟨gb231, 0, none⟩ = some (.slice none 0 0) := (blk_cell BK231.out 0).trans rfl; have hcz36_1 : w34.cell? ⟨gb231, 1, none⟩ = some (.string (⟨#[]⟩ : ByteArray)) := (blk_cell BK231.out 1).trans rfl; have hcz36_2 : w34.cell? ⟨gb231, 2, none⟩ = some (.bool false) := (blk_cell BK231.out 2).trans rfl; have hfz36_0 := blk_frozen BK231.out 0; have hfz36_1 := blk_frozen BK231.out 1; have hfz36_2 := blk_frozen BK231.out 2))
        refine bodyPost_ret (results_ct rfl _ _ gb231 24 #[.slice Ao35 t242.length co35, .string t245, .bool t246] (0, 0) _ rfl (by (with_reducible repeat (first | refine blk_drewN ?_ _ | refine blk_drew ?_ | refine blk_alloc ?_ _)); refine blk_put (cs := #[.slice Ao35 t242.length co35, .string t245, .bool false]) ?_ 2 _ rfl; (with_reducible repeat (first | refine blk_drewN ?_ _ | refine blk_drew ?_ | refine blk_alloc ?_ _)); refine blk_put (cs := #[.slice Ao35 t242.length co35, .string (⟨#[]⟩ : ByteArray), .bool false]) ?_ 1 _ rfl; (with_reducible repeat (first | refine blk_drewN ?_ _ | refine blk_drew ?_ | refine blk_alloc ?_ _)); refine blk_put (cs := #[.slice none 0 0, .string (⟨#[]⟩ : ByteArray), .bool false]) ?_ 0 _ rfl; (with_reducible repeat (first | refine blk_drewN ?_ _ | refine blk_drew ?_ | refine blk_alloc ?_ _)); exact BK231.out) Tryd.underlying24 rfl (by kernel_rfl)) rfl ?_
        exact ⟨_, by first | rfl | (simp [errW_none, errW_some] <;> rfl) | (simp [*, errW_none, errW_some] <;> rfl), by (with_reducible repeat (first | apply Kd.R_alloc | apply Kd.R_drewN | apply Kd.R_drew)); exact Kd.R_mono (Kd.R_far (p := ⟨gb231, 2, none⟩) (Kd.R_far (p := ⟨gb231, 1, none⟩) (Kd.R_far (p := ⟨gb231, 0, none⟩) (Kd.R_types HO244.out BK231.out (by decide)) (fun _ hk => hk.2) (.slice Ao35 t242.length co35)) (fun _ hk => hk.2) (.string t245)) (fun _ hk => hk.2) (.bool t246)) (fun _ hk => trivial), by repeat (first | (with_reducible first | exact HB.out | apply below_alloc | apply pw_below_drewN | apply below_drew1 | refine below_set ?_ GE230.out | refine below_set ?_ GE231.out | refine below_set ?_ GE237.out) | exact HB.out)⟩
       ·rw [if_neg c18] at H
        exact absurd H (by simp)
      ·rw [if_neg c16] at H
       have c16b0 : (t236 == 0) = false := beq_eq_false_iff_ne.mpr c16
       have c16b1 : (t236 != 0) = true := bne_iff_ne.mpr c16
       simp only [Option.some.injEq, Prod.mk.injEq] at H
       obtain ⟨rfl, rfl, rfl, rfl⟩ := H
       have hnb37 := NB230_231.out
       have hnc37 := NB231_230.out
       have hcz38_0 : wc.cell? ⟨gb230, 0, none⟩ = some (.slice A0_0 l0_0.length c0_0) := (blk_cell BK230.out 0).trans rfl
       have hcz38_1 : wc.cell? ⟨gb230, 1, none⟩ = some (.string a0_1) := (blk_cell BK230.out 1).trans rfl
       have hcz38_2 : wc.cell? ⟨gb230, 2, none⟩ = some (.bool a0_2) := (blk_cell BK230.out 2).trans rfl
       have hfz38_0 := blk_frozen BK230.out 0
       have hfz38_1 := blk_frozen BK230.out 1
       have hfz38_2 := blk_frozen BK230.out 2
       have p232 : 0 ≤ (a1 : Int) := od
       have q232 : a1 < (l0_0.length : Int) := od
       obtain ⟨ad232, e232, hx232_0, hx232_1, hx232_2⟩ := at_T41 HR0_0.out a1 p232 q232
       cases e232
       replace hx232_0 := (HB.out.cell (World.block_lt_of_cell? w _ hx232_0)).trans hx232_0
       replace hx232_1 := (HB.out.cell (World.block_lt_of_cell? w _ hx232_1)).trans hx232_1
       replace hx232_2 := (HB.out.cell (World.block_lt_of_cell? w _ hx232_2)).trans hx232_2
       replace p232 := eq_true p232
       replace q232 := eq_true q232
       go_wp2_with (first | ((with_reducible refine gate_callee (f := 14) rfl ?_); refine goesL_ (some 29) rfl rfl Tryd.func14 (by kernel_rfl) rfl #[.string ((rd_T41 l0_0 a1).f0), .string a2] rfl ml ?_; (with_reducible refine (head_Lay.calls kj3 ((rd_T41 l0_0 a1).f0) a2 t233 t234 t235 t236 _ ?side1 A15.out).mono ?_); (case side1 => exact Glob.below HG.out bl); rintro e w39 ⟨rfl, hb⟩; refine ⟨_, rfl, ?_⟩; have n0_ := Aside0.mk (kb BK230.out hb); have n1_ := Aside0.mk (kb BK231.out hb); have n2_ := Aside0.mk (below_step bl hb); clear BK230; clear BK231; clear HB; have BK230 := n0_; have BK231 := n1_; have HB := n2_; clear n0_ n1_ n2_; (try clear hb); (try clear hb2); (try clear hk); (try clear hi)) | ((with_reducible refine gate_dst (N := 8) rfl ?_); (try (refine gate_guard (by rfl) ?_; dsimp only)); refine box_event ?hg (N := 8) ?hd (cs := #[.string (⟨#[]⟩ : ByteArray), .string (⟨#[]⟩ : ByteArray), .string (⟨#[]⟩ : ByteArray)]) (t := 41) ?hr ?_; (case hd => rfl); (case hg => rfl); (case hr => first | (go_simp; done) | (go_simp; rfl)); intro gb237 hg w40 hbox hb; have n0_ := Aside0.mk (kb BK230.out hb); have n1_ := Aside0.mk (kb BK231.out hb); have n2_ := Aside0.mk (below_step bl hb); have n3_ := Aside0.mk (hbox); have n4_ := Aside0.mk ((by rw [hg]; exact (below_size bl) : w.heap.size ≤ gb237)); have n5_ := Aside0.mk ((by rw [hg]; exact (below_size bl) : w.heap.size ≤ gb237)); have n6_ := Aside0.mk ((by rw [hg]; exact Nat.ne_of_lt (blk_lt (bk BK230.out)) : gb230 ≠ gb237)); have n7_ := Aside0.mk ((by rw [hg]; exact Nat.ne_of_gt (blk_lt (bk BK230.out)) : gb237 ≠ gb230)); have n8_ := Aside0.mk ((by rw [hg]; exact Nat.ne_of_lt (blk_lt (bk BK231.out)) : gb231 ≠ gb237)); have n9_ := Aside0.mk ((by rw [hg]; exact Nat.ne_of_gt (blk_lt (bk BK231.out)) : gb237 ≠ gb231)); clear BK230; clear BK231; clear HB; have BK230 := n0_; have BK231 := n1_; have HB := n2_; have BK237 := n3_; have GW237 := n4_; have GE237 := n5_; have NB230_237 := n6_; have NB237_230 := n7_; have NB231_237 := n8_; have NB237_231 := n9_; clear n0_ n1_ n2_ n3_ n4_ n5_ n6_ n7_ n8_ n9_; clear hb hbox hg; have hnb41 := NB237_230.out; have hnc41 := NB230_237.out; have hnb42 := NB237_231.out; have hnc42 := NB231_237.out; have hcz43_0 : w40.cell? ⟨gb237, 0, none⟩ = some (.string (⟨#[]⟩ : ByteArray)) := (blk_cell BK237.out 0).trans rfl; have hcz43_1 : w40.cell? ⟨gb237, 1, none⟩ = some (.string (⟨#[]⟩ : ByteArray)) := (blk_cell BK237.out 1).trans rfl; have hcz43_2 : w40.cell? ⟨gb237, 2, none⟩ = some (.string (⟨#[]⟩ : ByteArray)) := (blk_cell BK237.out 2).trans rfl; have hfz43_0 := blk_frozen BK237.out 0; have hfz43_1 := blk_frozen BK237.out 1; have hfz43_2 := blk_frozen BK237.out 2; have hcz44_0 : w40.cell? ⟨gb231, 0, none⟩ = some (.slice none 0 0) := (blk_cell BK231.out 0).trans rfl; have hcz44_1 : w40.cell? ⟨gb231, 1, none⟩ = some (.string (⟨#[]⟩ : ByteArray)) := (blk_cell BK231.out 1).trans rfl; have hcz44_2 : w40.cell? ⟨gb231, 2, none⟩ = some (.bool false) := (blk_cell BK231.out 2).trans rfl; have hfz44_0 := blk_frozen BK231.out 0; have hfz44_1 := blk_frozen BK231.out 1; have hfz44_2 := blk_frozen BK231.out 2))
       refine bodyPost_ret (results_ct rfl _ _ gb231 24 #[.slice none 0 0, .string (⟨#[]⟩ : ByteArray), .bool false] (0, 0) _ rfl (by (with_reducible repeat (first | refine blk_drewN ?_ _ | refine blk_drew ?_ | refine blk_alloc ?_ _)); refine blk_put (cs := #[.slice none 0 0, .string (⟨#[]⟩ : ByteArray), .bool false]) ?_ 2 _ rfl; (with_reducible repeat (first | refine blk_drewN ?_ _ | refine blk_drew ?_ | refine blk_alloc ?_ _)); refine blk_put (cs := #[.slice none 0 0, .string (⟨#[]⟩ : ByteArray), .bool false]) ?_ 1 _ rfl; (with_reducible repeat (first | refine blk_drewN ?_ _ | refine blk_drew ?_ | refine blk_alloc ?_ _)); refine blk_put (cs := #[.slice none 0 0, .string (⟨#[]⟩ : ByteArray), .bool false]) ?_ 0 _ rfl; (with_reducible repeat (first | refine blk_drewN ?_ _ | refine blk_drew ?_ | refine blk_alloc ?_ _)); refine blk_far ?_ NB231_237.out _; (with_reducible repeat (first | refine blk_drewN ?_ _ | refine blk_drew ?_ | refine blk_alloc ?_ _)); refine blk_far ?_ NB231_237.out _; (with_reducible repeat (first | refine blk_drewN ?_ _ | refine blk_drew ?_ | refine blk_alloc ?_ _)); refine blk_far ?_ NB231_237.out _; (with_reducible repeat (first | refine blk_drewN ?_ _ | refine blk_drew ?_ | refine blk_alloc ?_ _)); exact BK231.out) Tryd.underlying24 rfl (by kernel_rfl)) rfl ?_
       exact ⟨_, by first | rfl | (simp [errW_none, errW_some] <;> rfl) | (simp [*, errW_none, errW_some] <;> rfl), by first | exact Kd.R_nil _ _ _ _ _ | exact Kd.N_nil _ _ _ _ _ | exact Kd.V_nil _ _ _ _ _ | exact Kd.Q_nil _ _ _ _ _ | exact Kd.S_nil _ _ _ _ _, by repeat (first | (with_reducible first | exact HB.out | apply below_alloc | apply pw_below_drewN | apply below_drew1 | refine below_set ?_ GE230.out | refine below_set ?_ GE231.out | refine below_set ?_ GE237.out) | exact HB.out)⟩
     ·rw [if_neg c14] at H
      exact absurd H (by simp)
    ·rw [if_neg c13] at H
     exact absurd H (by simp)

/-! ### strings_Repeat: function 38 (by hand) -/
def strings_Repeat.f (a0 : ByteArray) (a1 : Int) : Option ByteArray := if 0 ≤ a1 ∧ a1 ≤ 9223372036854775807 ∧ a0.size * a1.toNat ≤ 140737488355328 then some ⟨(Lib.repeatL a0.data.toList a1.toNat).toArray⟩ else none
theorem strings_Repeat.calls (a0 : ByteArray) (a1 : Int) (r : ByteArray) (w : World) (h : strings_Repeat.f a0 a1 = some r) :
    Calls Tryd.prog 38 #[.string a0, .int .i64 a1] w fun e w' => e = .returned (.string r) ∧ Below w.heap.size w w' := by
  unfold strings_Repeat.f at h
  split at h
  · rename_i hs
    obtain rfl := Option.some.inj h
    have hn : ((a1.toNat : Nat) : Int) = a1 := by omega
    have c := Tryd.strings_Repeat a0 a1.toNat w (by omega) hs.2.2
    rw [hn] at c
    exact c
  · cases h


/-! ### postriderlaw07_HeadKnown_map0: function 140 (by hand) -/
def hkX (n : Nat) : ByteArray := ⟨(Lib.repeatL [120] n).toArray⟩
def hkY (n : Nat) : ByteArray := (⟨#[97, 58, 32]⟩ : ByteArray) ++ hkX n
def hkLong (n : Nat) : ByteArray := hkY n ++ (⟨#[13, 10]⟩ : ByteArray)
def hkRow0 : List (ByteArray × Int) := [(⟨#[]⟩, 0), (⟨#[13, 10]⟩, 0), (⟨#[97, 58, 13, 10]⟩, 0), (⟨#[97, 32, 58, 98, 13, 10]⟩, 0), (⟨#[97, 58, 32, 98, 13, 10, 32, 13, 10]⟩, 0), (⟨#[97, 58, 32, 98, 13, 10, 13, 10, 110, 111, 32, 102, 105, 101, 108, 100, 13, 10]⟩, 0), (⟨#[97, 58, 32, 255, 13, 10]⟩, 0), (⟨#[97]⟩, 5), (⟨#[97, 58, 32, 98]⟩, 5), (⟨#[97, 58, 32, 98, 10]⟩, 5), (⟨#[97, 58, 32, 98, 13]⟩, 5), (⟨#[97, 58, 32, 98, 13, 13, 10]⟩, 5), (⟨#[97, 58, 32, 10, 98, 13, 10]⟩, 5), (⟨#[97, 13, 10, 32, 58, 98, 13, 10]⟩, 5), (⟨#[32, 97, 58, 32, 98, 13, 10]⟩, 5), (⟨#[97, 32, 98, 58, 32, 99, 13, 10]⟩, 5), (⟨#[58, 32, 98, 13, 10]⟩, 5), (⟨#[97, 58, 32, 0, 13, 10]⟩, 5), (⟨#[97, 58, 32, 127, 13, 10]⟩, 5), (⟨#[97, 58, 32, 98, 13, 10, 13, 10, 120]⟩, 5), (⟨#[228, 58, 32, 98, 13, 10]⟩, 5)]
def hkRow : List (ByteArray × Int) := hkRow0 ++ [(hkLong 8187, 0), (hkLong 8188, 3)]
def postriderlaw07_HeadKnown_map0.f (k : Nat) : Option Bool := if (hkRow.all fun e => decide ((head_Parse.f k e.1).map (fun r => r.2.2.2) = some e.2)) = true then some true else none
theorem postriderlaw07_HeadKnown_map0.mono : ∀ k, LeO (postriderlaw07_HeadKnown_map0.f k) (postriderlaw07_HeadKnown_map0.f (k + 1)) := by
  intro k r h
  unfold postriderlaw07_HeadKnown_map0.f at h ⊢
  split at h
  · rename_i hs
    rw [if_pos]
    · exact h
    · refine List.all_eq_true.2 (fun e he => ?_)
      have h1 := List.all_eq_true.1 hs e he
      rw [decide_eq_true_eq] at h1 ⊢
      obtain ⟨v, h2, h3⟩ := Option.map_eq_some_iff.1 h1
      exact Option.map_eq_some_iff.2 ⟨v, head_Parse.mono _ k _ h2, h3⟩
  · cases h
theorem hkX_size (n : Nat) : (hkX n).size = n := by
  show (hkX n).data.size = n
  simp [hkX, Lib.repeatL_length]
theorem hkY_size (n : Nat) : (hkY n).size = n + 3 := by
  unfold hkY; rw [ByteArray.size_append, hkX_size]
  have : (⟨#[97, 58, 32]⟩ : ByteArray).size = 3 := rfl
  omega
theorem hkLong_size (n : Nat) : (hkLong n).size = n + 5 := by
  unfold hkLong; rw [ByteArray.size_append, hkY_size]; rfl
def hkTbl : LTab := [(0, 28, fun b _ => .map (some b)), (22, 29, fun _ _ => .string (hkX 8187)), (23, 30, fun _ _ => .string (hkY 8187)), (24, 31, fun _ _ => .string (hkLong 8187)), (26, 32, fun _ _ => .string (hkX 8188)), (27, 33, fun _ _ => .string (hkY 8188)), (28, 34, fun _ _ => .string (hkLong 8188)), (30, 35, fun b _ => .map (some b)), (31, 36, fun _ r => .pointer (some ⟨r, 0, none⟩))]
theorem hk_put (b r : Nat) (t : Array Value) : putL (Array.replicate 32 true) b r hkTbl t = ((((((((t.setIfInBounds 28 (.map (some b))).setIfInBounds 29 (.string (hkX 8187))).setIfInBounds 30 (.string (hkY 8187))).setIfInBounds 31 (.string (hkLong 8187))).setIfInBounds 32 (.string (hkX 8188))).setIfInBounds 33 (.string (hkY 8188))).setIfInBounds 34 (.string (hkLong 8188))).setIfInBounds 35 (.map (some b))).setIfInBounds 36 (.pointer (some ⟨r, 0, none⟩)) := by
  have hT : ∀ i, i < 32 → (Array.replicate 32 true).getD i false = true := by intro i hi; simp [hi]
  unfold hkTbl
  simp only [putL, hT 0 (by decide), hT 22 (by decide), hT 23 (by decide), hT 24 (by decide), hT 26 (by decide), hT 27 (by decide), hT 28 (by decide), hT 30 (by decide), hT 31 (by decide), if_true]
theorem hk_apart : Apart hkTbl := by simp [hkTbl, Apart]
noncomputable abbrev hkOps : Array Oper := opsOf Tryd.f8 1
def hkP (o : Oper) : Op × Option Tmp × Option (Nat × Bool) := (o.op, o.dst, o.guard)
noncomputable def hkWaits (i j : Nat) : Bool := match hkOps[i]? with | some o => o.after.any fun e => Region.binds .any e && e.on == j | none => false
theorem hk_waits {i j : Nat} {o : Oper} {L : Array Bool} (ho : hkOps[i]? = some o) (hw : hkWaits i j = true) (ha : ∀ e ∈ o.after, Region.binds .any e = true → L.getD e.on false = true) : L.getD j false = true := by
  unfold hkWaits at hw
  rw [ho] at hw
  obtain ⟨e, he, hb⟩ := Array.any_eq_true'.1 hw
  simp only [Bool.and_eq_true, beq_iff_eq] at hb
  rw [← hb.2]
  exact ha e he hb.1
theorem hk_op {i : Nat} {o : Oper} {x : Op} {d : Option Tmp} (ho : hkOps[i]? = some o) (h : (hkOps[i]?).map hkP = some (x, d, none)) : o.op = x ∧ o.dst = d ∧ o.guard = none := by
  rw [ho, Option.map_some] at h
  have := Option.some.inj h
  unfold hkP at this
  injection this with h1 h2
  injection h2 with h2 h3
  exact ⟨h1, h2, h3⟩
theorem hk_add (w : World) (x y : ByteArray) (h : x.size + y.size ≤ 9223372036854775807) : (binOp .add 9 (.string x) (.string y)).run Tryd.prog w = .ok (.string (x ++ y)) w := by
  have h1 : ¬ 9223372036854775807 < x.size + y.size := by omega
  go_simp
theorem hk_all30 : ∀ i, i < 30 → hkWaits 30 i = true := by
  have h : (List.range 30).all (fun i => hkWaits 30 i) = true := by kernel_rfl
  exact fun i hi => List.all_eq_true.1 h i (List.mem_range.2 hi)
theorem hk_ins0 : ∀ i, 1 ≤ i → i ≤ 21 → hkWaits i 0 = true := by
  have h : (List.range 22).all (fun i => decide (i = 0) || hkWaits i 0) = true := by kernel_rfl
  intro i h1 h2
  have := List.all_eq_true.1 h i (List.mem_range.2 (by omega))
  simpa [show ¬ i = 0 by omega] using this
theorem hk_row : ∀ i, 1 ≤ i → i ≤ 21 → (hkRow0.getD (i - 1) (⟨#[]⟩, 0)) ∈ hkRow0 := by
  intro i h1 h2
  have hl : hkRow0.length = 21 := rfl
  rw [List.getD_eq_getElem?_getD, List.getElem?_eq_getElem (by omega)]
  exact List.getElem_mem _
theorem hk_small : ∀ z ∈ hkRow0, z.1.size ≤ maxLen ∧ (Lit.int .i64 z.2).wf = true := by
  have h : (hkRow0.all fun z => decide (z.1.size ≤ maxLen) && (Lit.int .i64 z.2).wf) = true := by decide +kernel
  intro z hz
  have := List.all_eq_true.1 h z hz
  rw [Bool.and_eq_true, decide_eq_true_eq] at this
  exact this
theorem hk_noins (i : Nat) (h1 : 1 ≤ i) (h2 : i ≤ 21) : ∀ z ∈ hkTbl, z.1 ≠ i := by
  intro z hz
  have h : (hkTbl.all fun z => decide (z.1 = 0) || decide (22 ≤ z.1)) = true := rfl
  have := List.all_eq_true.1 h z hz
  rw [Bool.or_eq_true, decide_eq_true_eq, decide_eq_true_eq] at this
  omega
theorem hk_back : ∀ (j : Nat) (o : Oper), hkOps[j]? = some o → ∀ e ∈ o.after, e.on < j := by
  have h : (List.range 32).all (fun j => match hkOps[j]? with | some o => o.after.all fun e => decide (e.on < j) | none => true) = true := by kernel_rfl
  intro j o ho e he
  have hn : hkOps.size = 32 := by kernel_rfl
  have hj : j < 32 := by rw [← hn]; exact (Array.getElem?_eq_some_iff.1 ho).1
  have := List.all_eq_true.1 h j (List.mem_range.2 hj)
  rw [ho] at this
  have := Array.all_eq_true'.1 this e he
  simpa using this
theorem hk_ins : ∀ i, 1 ≤ i → i ≤ 21 → (hkOps[i]?).map hkP = some (Op.insert 76 (.tmp 28) (.const (.string (hkRow0.getD (i - 1) (⟨#[]⟩, 0)).1)) (.const (.int .i64 (hkRow0.getD (i - 1) (⟨#[]⟩, 0)).2)), none, none)
  | 1, _, _ => by kernel_rfl
  | 2, _, _ => by kernel_rfl
  | 3, _, _ => by kernel_rfl
  | 4, _, _ => by kernel_rfl
  | 5, _, _ => by kernel_rfl
  | 6, _, _ => by kernel_rfl
  | 7, _, _ => by kernel_rfl
  | 8, _, _ => by kernel_rfl
  | 9, _, _ => by kernel_rfl
  | 10, _, _ => by kernel_rfl
  | 11, _, _ => by kernel_rfl
  | 12, _, _ => by kernel_rfl
  | 13, _, _ => by kernel_rfl
  | 14, _, _ => by kernel_rfl
  | 15, _, _ => by kernel_rfl
  | 16, _, _ => by kernel_rfl
  | 17, _, _ => by kernel_rfl
  | 18, _, _ => by kernel_rfl
  | 19, _, _ => by kernel_rfl
  | 20, _, _ => by kernel_rfl
  | 21, _, _ => by kernel_rfl
  | 0, h, _ => by omega
  | n + 22, _, h => by omega
set_option maxHeartbeats 4000000 in
set_option maxRecDepth 100000 in
theorem hk_region {Q : Exit → Act → World → Prop} {a0 : Act} {w : World} (hsz : 40 ≤ a0.tmps.size)
    (h : ∀ (b r : Nat) (w' : World) (n cnt : Nat) (D : DataW Unit) (left : Lit → Bool), SubL hkRow D → w'.ranges Tryd.prog 9 (plainElem (H := Unit) Tryd.prog 25) b r n D left cnt → Below w.heap.size w w' → w.heap.size ≤ r → Q .normal ⟨putL (Array.replicate 32 true) b r hkTbl a0.tmps, a0.defers⟩ w') :
    (Code.region 1 hkOps true).wp Tryd.prog Q a0 w := by
  have K : Maps.Keyed Tryd.prog 9 := Maps.string_keyed Tryd.underlying9
  have hk := Tryd.underlying9
  have he := Tryd.underlying25
  have ht := Tryd.underlying76
  have hn : hkOps.size = 32 := by kernel_rfl
  refine wp_region_inv (LIx Tryd.prog 9 25 hkRow hkTbl 0 31 w.heap.size w.drew a0) (by kernel_rfl) ?_ ?_ ?_
  · refine ⟨0, 0, ?_⟩
    have hz : ∀ j, (Array.replicate hkOps.size false).getD j false = false := fun j => by
      simp [Array.getElem?_replicate]
      split <;> rfl
    refine ⟨?_, Below.refl _ _, fun h1 => ?_, fun h1 => ?_, fun _ z _ h1 => ?_, fun _ z _ h1 => ?_, fun h1 => ?_, fun h1 => ?_, ?_, fun h1 => ?_⟩
    · have : ∀ (s : LTab) (t : Array Value), putL (Array.replicate hkOps.size false) 0 0 s t = t := by
        intro s
        induction s with
        | nil => intro t; rfl
        | cons e s ih => intro t; unfold putL; rw [hz, if_neg (by simp), ih]
      rw [this]
    · rw [hz] at h1; cases h1
    · rw [hz] at h1; cases h1
    · rw [hz] at h1; cases h1
    · rw [hz] at h1; cases h1
    · rw [hz] at h1; cases h1
    · rw [hz] at h1; cases h1
    · rw [hn]; unfold leftN; simp
    · rw [hz] at h1; cases h1
  · rintro L a w1 i o hL hC ⟨b, r, I⟩ hl ho hafter
    have hlt : i < 32 := by rw [← hn]; exact (Array.getElem?_eq_some_iff.1 ho).1
    have hR : i ≠ 31 → L.getD 31 false = false := fun hne => by
      cases hv : L.getD 31 false with
      | false => rfl
      | true =>
        have w0 := getD_was hl
        have h31 : hkOps[31]? = some hkOps[31] := by simp
        have h30 : hkOps[30]? = some hkOps[30] := by simp
        have v30 := hk_waits (j := 30) h31 (by kernel_rfl) (hC 31 _ h31 hv)
        by_cases hi : i = 30
        · rw [hi, v30] at w0; cases w0
        · have := hk_waits (j := i) h30 (hk_all30 i (by omega)) (hC 30 _ h30 v30)
          rw [this] at w0; cases w0
    have hM : hkWaits i 0 = true → L.getD 0 false = true := fun hw => hk_waits ho hw hafter
    have hbs : w.heap.size ≤ w.drew.heap.size := Nat.le_refl _
    by_cases hins : 1 ≤ i ∧ i ≤ 21
    · obtain ⟨q1, q2, q3⟩ := hk_op ho (hk_ins i hins.1 hins.2)
      have hM := hM (hk_ins0 i hins.1 hins.2)
      have hz : (hkRow0.getD (i - 1) (⟨#[]⟩, 0)) ∈ hkRow0 := hk_row i hins.1 hins.2
      have hsml := hk_small _ hz
      generalize hkRow0.getD (i - 1) ((⟨#[]⟩ : ByteArray), (0 : Int)) = z at q1 hz hsml
      obtain ⟨w2, hrun, I2⟩ := step_ins (t := 76) (s := z.1) (c := z.2) hk he K ht (hk_noins i hins.1 hins.2) I hl (by omega) (by omega) hM (hR (by omega)) (List.mem_append_left _ hz) hsml.1 hsml.2 hbs
      have hev := I.at_ hk_apart (i := 0) (d := 28) (f := fun b _ => .map (some b)) (by simp [hkTbl]) hM (Nat.lt_of_lt_of_le (show (28 : Nat) < 40 by decide) hsz)
      refine wpOp_skip ho q3 (w' := w2) ?_ ?_
      · have hev3 : a.eval (.const (.string z.1)) = .string z.1 := rfl
        have hev4 : a.eval (.const (.int .i64 z.2)) = .int .i64 z.2 := rfl
        simp [execOp, q1, hev, hev3, hev4, hrun, Result.andThen]
      · rw [q2]; exact ⟨b, r, I2⟩
    · have hcase : i = 0 ∨ i = 22 ∨ i = 23 ∨ i = 24 ∨ i = 25 ∨ i = 26 ∨ i = 27 ∨ i = 28 ∨ i = 29 ∨ i = 30 ∨ i = 31 := by omega
      clear hins hlt
      rcases hcase with rfl | rfl | rfl | rfl | rfl | rfl | rfl | rfl | rfl | rfl | rfl
      · obtain ⟨q1, q2, q3⟩ := hk_op ho (x := Op.makeMap 76 none) (d := some 28) (by kernel_rfl)
        refine wpOp_value ho q3 (w' := w1.alloc (.map #[] 0)) (v := .map (some w1.heap.size)) ?_ ?_
        · simp [execOp, q1, run_makeMap, Result.andThen]
        · rw [q2]; exact ⟨w1.heap.size, r, step_make hk_apart (by simp [hkTbl]) I hl (by decide) hbs⟩
      · obtain ⟨q1, q2, q3⟩ := hk_op ho (x := Op.call { callee := .value (.func 38), args := #[.const (.string ⟨#[120]⟩), .const (.int .i64 8187)], argTypes := #[9, 3] }) (d := some 29) (by kernel_rfl)
        have hc := strings_Repeat.calls (⟨#[120]⟩ : ByteArray) 8187 (hkX 8187) w1 (by unfold strings_Repeat.f; rw [if_pos (by decide)]; rfl)
        refine wpOp_enter ho q3 (f := 38) (args := #[.string ⟨#[120]⟩, .int .i64 8187]) (w' := w1) ?_ hc ?_
        · unfold execOp
          rw [q1]
          go_simp
        · rintro e w2 ⟨rfl, hb⟩
          refine ⟨_, rfl, ?_⟩
          rw [q2]
          exact ⟨b, r, step_val (f := fun _ => .string (hkX 8187)) hk_apart (by simp [hkTbl]) I hl (by decide) (by decide) (.inl fun _ _ => rfl) hb hbs⟩
      · obtain ⟨q1, q2, q3⟩ := hk_op ho (x := Op.binOp .add 9 (.const (.string ⟨#[97, 58, 32]⟩)) (.tmp 29) 9) (d := some 30) (by kernel_rfl)
        have hev := I.at_ hk_apart (i := 22) (d := 29) (f := fun _ _ => .string (hkX 8187)) (by simp [hkTbl]) (hk_waits ho (by kernel_rfl) hafter) (Nat.lt_of_lt_of_le (show (29 : Nat) < 40 by decide) hsz)
        refine wpOp_value ho q3 (w' := w1) (v := .string (hkY 8187)) ?_ ?_
        · have hr := hk_add w1 (⟨#[97, 58, 32]⟩ : ByteArray) (hkX 8187) (by rw [hkX_size]; decide)
          have hc : ∀ v : Value, a.eval (.const v) = v := fun _ => rfl
          simp [execOp, q1, hev, hc, eqGuard, hr, Result.andThen]
          try rfl
        · rw [q2]; exact ⟨b, r, step_val (f := fun _ => .string (hkY 8187)) hk_apart (by simp [hkTbl]) I hl (by decide) (by decide) (.inl fun _ _ => rfl) (Below.refl _ _) hbs⟩
      · obtain ⟨q1, q2, q3⟩ := hk_op ho (x := Op.binOp .add 9 (.tmp 30) (.const (.string ⟨#[13, 10]⟩)) 9) (d := some 31) (by kernel_rfl)
        have hev := I.at_ hk_apart (i := 23) (d := 30) (f := fun _ _ => .string (hkY 8187)) (by simp [hkTbl]) (hk_waits ho (by kernel_rfl) hafter) (Nat.lt_of_lt_of_le (show (30 : Nat) < 40 by decide) hsz)
        refine wpOp_value ho q3 (w' := w1) (v := .string (hkLong 8187)) ?_ ?_
        · have hr := hk_add w1 (hkY 8187) (⟨#[13, 10]⟩ : ByteArray) (by rw [hkY_size]; decide)
          have hc : ∀ v : Value, a.eval (.const v) = v := fun _ => rfl
          simp [execOp, q1, hev, hc, eqGuard, hr, Result.andThen]
          try rfl
        · rw [q2]; exact ⟨b, r, step_val (f := fun _ => .string (hkLong 8187)) hk_apart (by simp [hkTbl]) I hl (by decide) (by decide) (.inl fun _ _ => rfl) (Below.refl _ _) hbs⟩
      · obtain ⟨q1, q2, q3⟩ := hk_op ho (x := Op.insert 76 (.tmp 28) (.tmp 31) (.const (.int .i64 0))) (d := none) (by kernel_rfl)
        have hM := hM (by kernel_rfl)
        obtain ⟨w2, hrun, I2⟩ := step_ins (t := 76) (s := (hkLong 8187)) (c := 0) hk he K ht (by simp [hkTbl]) I hl (by decide) (by decide) hM (hR (by decide)) (by simp [hkRow]) (by rw [hkLong_size]; decide) (by decide) hbs
        have hev := I.at_ hk_apart (i := 0) (d := 28) (f := fun b _ => .map (some b)) (by simp [hkTbl]) hM (Nat.lt_of_lt_of_le (show (28 : Nat) < 40 by decide) hsz)
        have hev2 := I.at_ hk_apart (i := 24) (d := 31) (f := fun _ _ => .string (hkLong 8187)) (by simp [hkTbl]) (hk_waits ho (by kernel_rfl) hafter) (Nat.lt_of_lt_of_le (show (31 : Nat) < 40 by decide) hsz)
        refine wpOp_skip ho q3 (w' := w2) ?_ ?_
        · have hev3 : a.eval (.const (.int .i64 0)) = .int .i64 0 := rfl
          simp [execOp, q1, hev, hev2, hev3, hrun, Result.andThen]
        · rw [q2]; exact ⟨b, r, I2⟩
      · obtain ⟨q1, q2, q3⟩ := hk_op ho (x := Op.call { callee := .value (.func 38), args := #[.const (.string ⟨#[120]⟩), .const (.int .i64 8188)], argTypes := #[9, 3] }) (d := some 32) (by kernel_rfl)
        have hc := strings_Repeat.calls (⟨#[120]⟩ : ByteArray) 8188 (hkX 8188) w1 (by unfold strings_Repeat.f; rw [if_pos (by decide)]; rfl)
        refine wpOp_enter ho q3 (f := 38) (args := #[.string ⟨#[120]⟩, .int .i64 8188]) (w' := w1) ?_ hc ?_
        · unfold execOp
          rw [q1]
          go_simp
        · rintro e w2 ⟨rfl, hb⟩
          refine ⟨_, rfl, ?_⟩
          rw [q2]
          exact ⟨b, r, step_val (f := fun _ => .string (hkX 8188)) hk_apart (by simp [hkTbl]) I hl (by decide) (by decide) (.inl fun _ _ => rfl) hb hbs⟩
      · obtain ⟨q1, q2, q3⟩ := hk_op ho (x := Op.binOp .add 9 (.const (.string ⟨#[97, 58, 32]⟩)) (.tmp 32) 9) (d := some 33) (by kernel_rfl)
        have hev := I.at_ hk_apart (i := 26) (d := 32) (f := fun _ _ => .string (hkX 8188)) (by simp [hkTbl]) (hk_waits ho (by kernel_rfl) hafter) (Nat.lt_of_lt_of_le (show (32 : Nat) < 40 by decide) hsz)
        refine wpOp_value ho q3 (w' := w1) (v := .string (hkY 8188)) ?_ ?_
        · have hr := hk_add w1 (⟨#[97, 58, 32]⟩ : ByteArray) (hkX 8188) (by rw [hkX_size]; decide)
          have hc : ∀ v : Value, a.eval (.const v) = v := fun _ => rfl
          simp [execOp, q1, hev, hc, eqGuard, hr, Result.andThen]
          try rfl
        · rw [q2]; exact ⟨b, r, step_val (f := fun _ => .string (hkY 8188)) hk_apart (by simp [hkTbl]) I hl (by decide) (by decide) (.inl fun _ _ => rfl) (Below.refl _ _) hbs⟩
      · obtain ⟨q1, q2, q3⟩ := hk_op ho (x := Op.binOp .add 9 (.tmp 33) (.const (.string ⟨#[13, 10]⟩)) 9) (d := some 34) (by kernel_rfl)
        have hev := I.at_ hk_apart (i := 27) (d := 33) (f := fun _ _ => .string (hkY 8188)) (by simp [hkTbl]) (hk_waits ho (by kernel_rfl) hafter) (Nat.lt_of_lt_of_le (show (33 : Nat) < 40 by decide) hsz)
        refine wpOp_value ho q3 (w' := w1) (v := .string (hkLong 8188)) ?_ ?_
        · have hr := hk_add w1 (hkY 8188) (⟨#[13, 10]⟩ : ByteArray) (by rw [hkY_size]; decide)
          have hc : ∀ v : Value, a.eval (.const v) = v := fun _ => rfl
          simp [execOp, q1, hev, hc, eqGuard, hr, Result.andThen]
          try rfl
        · rw [q2]; exact ⟨b, r, step_val (f := fun _ => .string (hkLong 8188)) hk_apart (by simp [hkTbl]) I hl (by decide) (by decide) (.inl fun _ _ => rfl) (Below.refl _ _) hbs⟩
      · obtain ⟨q1, q2, q3⟩ := hk_op ho (x := Op.insert 76 (.tmp 28) (.tmp 34) (.const (.int .i64 3))) (d := none) (by kernel_rfl)
        have hM := hM (by kernel_rfl)
        obtain ⟨w2, hrun, I2⟩ := step_ins (t := 76) (s := (hkLong 8188)) (c := 3) hk he K ht (by simp [hkTbl]) I hl (by decide) (by decide) hM (hR (by decide)) (by simp [hkRow]) (by rw [hkLong_size]; decide) (by decide) hbs
        have hev := I.at_ hk_apart (i := 0) (d := 28) (f := fun b _ => .map (some b)) (by simp [hkTbl]) hM (Nat.lt_of_lt_of_le (show (28 : Nat) < 40 by decide) hsz)
        have hev2 := I.at_ hk_apart (i := 28) (d := 34) (f := fun _ _ => .string (hkLong 8188)) (by simp [hkTbl]) (hk_waits ho (by kernel_rfl) hafter) (Nat.lt_of_lt_of_le (show (34 : Nat) < 40 by decide) hsz)
        refine wpOp_skip ho q3 (w' := w2) ?_ ?_
        · have hev3 : a.eval (.const (.int .i64 3)) = .int .i64 3 := rfl
          simp [execOp, q1, hev, hev2, hev3, hrun, Result.andThen]
        · rw [q2]; exact ⟨b, r, I2⟩
      · obtain ⟨q1, q2, q3⟩ := hk_op ho (x := Op.move (.tmp 28)) (d := some 35) (by kernel_rfl)
        have hM := hM (by kernel_rfl)
        have hev := I.at_ hk_apart (i := 0) (d := 28) (f := fun b _ => .map (some b)) (by simp [hkTbl]) hM (Nat.lt_of_lt_of_le (show (28 : Nat) < 40 by decide) hsz)
        refine wpOp_value ho q3 (w' := w1) (v := .map (some b)) ?_ ?_
        · simp [execOp, q1, hev]
          try rfl
        · rw [q2]; exact ⟨b, r, step_val (f := fun b => .map (some b)) hk_apart (by simp [hkTbl]) I hl (by decide) (by decide) (.inr hM) (Below.refl _ _) hbs⟩
      · obtain ⟨q1, q2, q3⟩ := hk_op ho (x := Op.range 76 (.tmp 35)) (d := some 36) (by kernel_rfl)
        have h30 := hk_waits (j := 30) ho (by kernel_rfl) hafter
        have hM : L.getD 0 false = true := by
          have h30' : hkOps[30]? = some hkOps[30] := by simp
          exact hk_waits (j := 0) h30' (by kernel_rfl) (hC 30 _ h30' h30)
        have hev := I.at_ hk_apart (i := 30) (d := 35) (f := fun b _ => .map (some b)) (by simp [hkTbl]) h30 (Nat.lt_of_lt_of_le (show (35 : Nat) < 40 by decide) hsz)
        obtain ⟨w2, hrun, I2⟩ := step_range K ht hk_apart (d := 36) (by simp [hkTbl]) I hl (by decide) hM hbs
        refine wpOp_value ho q3 (w' := w2) (v := .pointer (some ⟨w1.heap.size, 0, none⟩)) ?_ ?_
        · simp [execOp, q1, hev, hrun, Result.andThen]
        · rw [q2]; exact ⟨b, _, I2⟩
  · rintro L a w1 hL ⟨b, r, I⟩ hr
    have hup := all_up hL hk_back hr
    have hLt : L = Array.replicate 32 true := by
      apply Array.ext
      · rw [hL, hn]; simp
      · intro j h1 h2
        have := hup j (by omega)
        simpa [h1] using this
    obtain ⟨n, D, left, cnt, hS, hrg⟩ := I.rng (hup 0 (by rw [hn]; decide)) (hup 31 (by rw [hn]; decide))
    have hQ := h b r w1 n cnt D left hS hrg ((below_drew (Below.refl _ _)).trans I.bel) (I.loR (hup 31 (by rw [hn]; decide)))
    rw [← hLt] at hQ
    rw [I.a]
    exact hQ


end Go.Proofs.YtdciiahlakgikaaDoor.Q
end
section
namespace Go.Proofs.YtdciiahlakgikaaDoor.Q
open Go.RowKit Go.Proofs.YtdciiahlakgikaaDoorW.PrintWords Go.Proofs.YtdciiahlakgikaaDoorW.PrintLast Go.Proofs.YtdciiahlakgikaaDoorW.PrintMore
attribute [local go_sem] max2_int min2_int max_two min_two max_three min_three max_four min_four   -- for this text's walks alone
set_option linter.unusedVariables false
set_option linter.unusedSimpArgs false

/-! ### postriderlaw07_HeadKnown: function 8 -/
def postriderlaw07_HeadKnown.j0 : Nat → Bool → List (S41) → ByteArray → Bool → Option (Bool)
 | 0, _, _, _, _ => none
 | k + 1, x99, x256000, x256001, x256002 => if x99 = true then (some false) else ((strings_Repeat.f (⟨#[120]⟩ : ByteArray) 70).bind fun t267 => (if t267.size + 2 ≤ 9223372036854775807 then (if (t267 ++ (⟨#[44, 32]⟩ : ByteArray)).size + t267.size ≤ 9223372036854775807 then (if ((t267 ++ (⟨#[44, 32]⟩ : ByteArray)) ++ t267).size + 6 ≤ 9223372036854775807 then ((head_Lay.f k (⟨#[84, 111]⟩ : ByteArray) (((t267 ++ (⟨#[44, 32]⟩ : ByteArray)) ++ t267) ++ (⟨#[44, 32, 121, 44, 32, 122]⟩ : ByteArray))).bind fun bt268 => (if 2 + t267.size ≤ 9223372036854775807 then (if ((⟨#[44, 32]⟩ : ByteArray) ++ t267).size + t267.size ≤ 9223372036854775807 then ((head_Lay.f k (⟨#[84, 111]⟩ : ByteArray) (((⟨#[44, 32]⟩ : ByteArray) ++ t267) ++ t267)).bind fun bt273 => ((strings_Repeat.f (⟨#[121]⟩ : ByteArray) 74).bind fun t278 => (if t278.size + 3 ≤ 9223372036854775807 then ((head_Lay.f k (⟨#[84, 111]⟩ : ByteArray) (t278 ++ (⟨#[44, 32, 122]⟩ : ByteArray))).bind fun bt279 => ((strings_Repeat.f (⟨#[121]⟩ : ByteArray) 73).bind fun t284 => (if t284.size + 3 ≤ 9223372036854775807 then ((head_Lay.f k (⟨#[84, 111]⟩ : ByteArray) (t284 ++ (⟨#[44, 32, 122]⟩ : ByteArray))).bind fun bt285 => ((head_Lay.f k (⟨#[84, 32, 111]⟩ : ByteArray) (⟨#[]⟩ : ByteArray)).bind fun bt290 => ((head_Lay.f k (⟨#[]⟩ : ByteArray) (⟨#[120]⟩ : ByteArray)).bind fun bt295 => ((head_Lay.f k (⟨#[120]⟩ : ByteArray) (⟨#[97, 10, 98]⟩ : ByteArray)).bind fun bt300 => ((strings_Repeat.f (⟨#[121]⟩ : ByteArray) 8192).bind fun t305 => ((head_Message_Ahead.f k x256000 x256001 x256002 (⟨#[120]⟩ : ByteArray) t305).bind fun bt306 => ((head_Message_Put.f k x256000 x256001 x256002 3 (⟨#[]⟩ : ByteArray)).bind fun bt313 => ((head_Message_Put.f k x256000 x256001 x256002 (-1) (⟨#[]⟩ : ByteArray)).bind fun bt320 => (if bt268.2.2.2 = 0 then (if 4 + t267.size ≤ 9223372036854775807 then (if ((⟨#[84, 111, 58, 32]⟩ : ByteArray) ++ t267).size + 4 ≤ 9223372036854775807 then (if (((⟨#[84, 111, 58, 32]⟩ : ByteArray) ++ t267) ++ (⟨#[44, 13, 10, 32]⟩ : ByteArray)).size + t267.size ≤ 9223372036854775807 then (if ((((⟨#[84, 111, 58, 32]⟩ : ByteArray) ++ t267) ++ (⟨#[44, 13, 10, 32]⟩ : ByteArray)) ++ t267).size + 8 ≤ 9223372036854775807 then (if bt268.2.2.1.toList = (((((⟨#[84, 111, 58, 32]⟩ : ByteArray) ++ t267) ++ (⟨#[44, 13, 10, 32]⟩ : ByteArray)) ++ t267) ++ (⟨#[44, 32, 121, 44, 32, 122, 13, 10]⟩ : ByteArray)).toList then (if bt273.2.2.2 = 0 then (if 8 + t267.size ≤ 9223372036854775807 then (if ((⟨#[84, 111, 58, 32, 44, 13, 10, 32]⟩ : ByteArray) ++ t267).size + t267.size ≤ 9223372036854775807 then (if (((⟨#[84, 111, 58, 32, 44, 13, 10, 32]⟩ : ByteArray) ++ t267) ++ t267).size + 2 ≤ 9223372036854775807 then (if bt273.2.2.1.toList = ((((⟨#[84, 111, 58, 32, 44, 13, 10, 32]⟩ : ByteArray) ++ t267) ++ t267) ++ (⟨#[13, 10]⟩ : ByteArray)).toList then (if bt279.2.2.2 = 0 then ((strings_Repeat.f (⟨#[121]⟩ : ByteArray) 74).bind fun t327 => (if 4 + t327.size ≤ 9223372036854775807 then (if ((⟨#[84, 111, 58, 32]⟩ : ByteArray) ++ t327).size + 7 ≤ 9223372036854775807 then (if bt279.2.2.1.toList = (((⟨#[84, 111, 58, 32]⟩ : ByteArray) ++ t327) ++ (⟨#[44, 13, 10, 32, 122, 13, 10]⟩ : ByteArray)).toList then (if bt285.2.2.2 = 0 then ((strings_Repeat.f (⟨#[121]⟩ : ByteArray) 73).bind fun t328 => (if 4 + t328.size ≤ 9223372036854775807 then (if ((⟨#[84, 111, 58, 32]⟩ : ByteArray) ++ t328).size + 7 ≤ 9223372036854775807 then (if bt285.2.2.1.toList = (((⟨#[84, 111, 58, 32]⟩ : ByteArray) ++ t328) ++ (⟨#[44, 13, 10, 32, 122, 13, 10]⟩ : ByteArray)).toList then (if bt290.2.2.2 = 5 then (if bt295.2.2.2 = 5 then (if bt300.2.2.2 = 5 then (if bt306.2.2.2 = 3 then (if bt313.2.2.2 = 1 then (if bt320.2.2.2 = 1 then ((postriderlaw07_wakes.f k).bind fun t329 => (some t329)) else (some false)) else (some false)) else (some false)) else (some false)) else (some false)) else (some false)) else (some false)) else (none)) else (none))) else (some false)) else (some false)) else (none)) else (none))) else (some false)) else (some false)) else (none)) else (none)) else (none)) else (some false)) else (some false)) else (none)) else (none)) else (none)) else (none)) else (some false)))))))))) else (none)))) else (none)))) else (none)) else (none))) else (none)) else (none)) else (none)))
def postriderlaw07_HeadKnown.f (k : Nat)  : Option (Bool) := (postriderlaw07_HeadKnown_map0.f k).bind fun t248 => ((head_Parse.f k (⟨#[65, 58, 32, 49, 13, 10, 98, 32, 58, 32, 50, 32, 13, 10, 9, 51, 13, 10, 97, 58, 52, 13, 10, 13, 10, 13, 10]⟩ : ByteArray)).bind fun bt249 => (if bt249.2.2.2 = 0 then (if (bt249.1.length : Int) = 3 then (if 1 < (bt249.1.length : Int) then (if ((rd_T41 bt249.1 1).f0).toList = ([98] : List UInt8) then (if ((rd_T41 bt249.1 1).f1).toList = ([50, 32, 9, 51] : List UInt8) then (if bt249.2.1.toList = ([13, 10] : List UInt8) then ((head_Message_Find.f bt249.1 bt249.2.1 bt249.2.2.1 (⟨#[97]⟩ : ByteArray)).bind fun t258 => ((slices_Equal_string_string.f k t258 (([(⟨#[49]⟩ : ByteArray), (⟨#[52]⟩ : ByteArray)] : List ByteArray))).bind fun t264 => (if t264 = true then ((head_Message_Count.f bt249.1 bt249.2.1 bt249.2.2.1 (⟨#[66]⟩ : ByteArray)).bind fun t265 => (if t265 = 1 then ((head_Message_Count.f bt249.1 bt249.2.1 bt249.2.2.1 (⟨#[99]⟩ : ByteArray)).bind fun t266 => (postriderlaw07_HeadKnown.j0 k (t266 != 0) bt249.1 bt249.2.1 bt249.2.2.1)) else (postriderlaw07_HeadKnown.j0 k true bt249.1 bt249.2.1 bt249.2.2.1))) else (postriderlaw07_HeadKnown.j0 k true bt249.1 bt249.2.1 bt249.2.2.1)))) else (postriderlaw07_HeadKnown.j0 k true bt249.1 bt249.2.1 bt249.2.2.1)) else (postriderlaw07_HeadKnown.j0 k true bt249.1 bt249.2.1 bt249.2.2.1)) else (postriderlaw07_HeadKnown.j0 k true bt249.1 bt249.2.1 bt249.2.2.1)) else (none)) else (postriderlaw07_HeadKnown.j0 k true bt249.1 bt249.2.1 bt249.2.2.1)) else (postriderlaw07_HeadKnown.j0 k true bt249.1 bt249.2.1 bt249.2.2.1)))
theorem postriderlaw07_HeadKnown.mono_l : ∀ k, (∀ y0 y1 y2 y3, LeO (postriderlaw07_HeadKnown.j0 k y0 y1 y2 y3) (postriderlaw07_HeadKnown.j0 (k + 1) y0 y1 y2 y3))
 | 0 => fun _ _ _ _ r h => by simp [postriderlaw07_HeadKnown.j0] at h
 | k + 1 => by
  have ih0 := postriderlaw07_HeadKnown.mono_l k
  ·intro y0 y1 y2 y3
   unfold postriderlaw07_HeadKnown.j0
   repeat' first
   | (with_reducible exact ih0 _ _ _ _)
   | (with_reducible exact head_Lay.mono _ _ _)
   | (with_reducible exact head_Message_Ahead.mono _ _ _ _ _ _)
   | (with_reducible exact head_Message_Put.mono _ _ _ _ _ _)
   | (with_reducible exact head_Parse.mono _ _)
   | (with_reducible exact postriderlaw07_HeadKnown_map0.mono _)
   | (with_reducible exact postriderlaw07_wakes.mono _)
   | (with_reducible exact slices_Equal_string_string.mono _ _ _)
   | (with_reducible exact LeO.refl _)
   | (with_reducible exact LeO.none _)
   | (with_reducible refine LeO.ite ?_ ?_)
   | (with_reducible refine LeO.bind ?_ (fun _ => ?_))
   | exact ih0 _ _ _ _
   | exact head_Lay.mono _ _ _
   | exact head_Message_Ahead.mono _ _ _ _ _ _
   | exact head_Message_Put.mono _ _ _ _ _ _
   | exact head_Parse.mono _ _
   | exact postriderlaw07_HeadKnown_map0.mono _
   | exact postriderlaw07_wakes.mono _
   | exact slices_Equal_string_string.mono _ _ _
   | exact LeO.none _
   | refine LeO.ite ?_ ?_
   | refine LeO.bind ?_ (fun _ => ?_)
theorem postriderlaw07_HeadKnown.mono : ∀ k, LeO (postriderlaw07_HeadKnown.f k ) (postriderlaw07_HeadKnown.f (k + 1) ) := by
 intro  k
 have ih0 := postriderlaw07_HeadKnown.mono_l k
 unfold postriderlaw07_HeadKnown.f
 repeat' first
   | (with_reducible exact ih0 _ _ _ _)
   | (with_reducible exact head_Lay.mono _ _ _)
   | (with_reducible exact head_Message_Ahead.mono _ _ _ _ _ _)
   | (with_reducible exact head_Message_Put.mono _ _ _ _ _ _)
   | (with_reducible exact head_Parse.mono _ _)
   | (with_reducible exact postriderlaw07_HeadKnown_map0.mono _)
   | (with_reducible exact postriderlaw07_wakes.mono _)
   | (with_reducible exact slices_Equal_string_string.mono _ _ _)
   | (with_reducible exact LeO.refl _)
   | (with_reducible exact LeO.none _)
   | (with_reducible refine LeO.ite ?_ ?_)
   | (with_reducible refine LeO.bind ?_ (fun _ => ?_))
   | exact ih0 _ _ _ _
   | exact head_Lay.mono _ _ _
   | exact head_Message_Ahead.mono _ _ _ _ _ _
   | exact head_Message_Put.mono _ _ _ _ _ _
   | exact head_Parse.mono _ _
   | exact postriderlaw07_HeadKnown_map0.mono _
   | exact postriderlaw07_wakes.mono _
   | exact slices_Equal_string_string.mono _ _ _
   | exact LeO.none _
   | refine LeO.ite ?_ ?_
   | refine LeO.bind ?_ (fun _ => ?_)
def postriderlaw07_HeadKnown.T18 : Bool × List (List Nat × List Nat) := (true, [([], []), ([], []), ([0, 1, 1], [0, 1]), ([2], [2]), ([3], [3]), ([3], [3]), ([], []), ([6, 4, 2, 0, 1, 2, 3, 4, 6], [4, 6]), ([5, 7, 0, 1, 2, 3, 4, 5, 6, 7], [5])])
def postriderlaw07_HeadKnown.B18 : List Nat := [0, 0, 3, 7, 15, 15, 0, 95, 255]
theorem postriderlaw07_HeadKnown.tab18 : rtab .any (opsOf Tryd.f8 18) = postriderlaw07_HeadKnown.T18 := by kernel_rfl
theorem postriderlaw07_HeadKnown.bits18 : waitsOk postriderlaw07_HeadKnown.T18.2 postriderlaw07_HeadKnown.B18 = true := by kernel_rfl
def postriderlaw07_HeadKnown.T21 : Bool × List (List Nat × List Nat) := (true, [([], []), ([0], [0]), ([1], [1]), ([2], [2]), ([3, 2], [2, 3]), ([2], [2]), ([5, 2], [2, 5]), ([6, 2], [2, 6]), ([2], [2]), ([7, 8, 2], [2, 7, 8]), ([9, 2], [2, 9]), ([4, 10, 2], [2, 4, 10]), ([2, 11], [2, 11]), ([12, 2], [12]), ([13], [13]), ([14, 13], [13, 14]), ([13, 15], [13, 15]), ([16, 13], [16]), ([17], [17]), ([18, 17], [17, 18]), ([17], [17]), ([20, 17], [17, 20]), ([17], [17]), ([21, 22, 17], [17, 21, 22]), ([23, 17], [17, 23]), ([19, 24, 17], [17, 19, 24]), ([17, 25], [17, 25]), ([26, 17], [26]), ([27], [27]), ([28, 27], [27, 28]), ([27, 29], [27, 29]), ([30, 27], [30]), ([31], [31]), ([32, 31], [31, 32]), ([31, 31], [31]), ([34, 31], [31, 34]), ([35, 31], [31, 35]), ([33, 36, 31], [31, 33, 36]), ([31, 37], [31, 37]), ([38, 34], [38]), ([39], [39]), ([40, 39], [39, 40]), ([39, 41], [39, 41]), ([42, 39], [42]), ([43], [43]), ([44, 43], [43, 44]), ([43, 43], [43]), ([46, 43], [43, 46]), ([47, 43], [43, 47]), ([45, 48, 43], [43, 45, 48]), ([43, 49], [43, 49]), ([50, 46], [50]), ([51], [51]), ([52, 51], [51, 52]), ([51, 53], [51, 53]), ([54, 51], [54]), ([55], [55]), ([56, 55], [55, 56]), ([55, 57], [55, 57]), ([58, 55], [58]), ([59], [59]), ([60, 59], [59, 60]), ([59, 61], [59, 61]), ([62, 59], [62]), ([63], [63]), ([64, 63], [63, 64]), ([63, 65], [63, 65]), ([66, 63], [66]), ([67], [67]), ([68, 67], [67, 68]), ([67, 69], [67, 69]), ([70, 67], [70]), ([71], [71]), ([72, 71], [71, 72]), ([71, 73], [71, 73]), ([74, 71], [74]), ([75, 75], [75]), ([75, 76], [75, 76]), ([77, 76, 0, 1, 2, 3, 4, 5, 6, 7, 8, 9, 10, 11, 12, 13, 14, 15, 16, 17, 18, 19, 20, 21, 22, 23, 24, 25, 26, 27, 28, 29, 30, 31, 32, 33, 34, 35, 36, 37, 38, 39, 40, 41, 42, 43, 44, 45, 46, 47, 48, 49, 50, 51, 52, 53, 54, 55, 56, 57, 58, 59, 60, 61, 62, 63, 64, 65, 66, 67, 68, 69, 70, 71, 72, 73, 74, 75, 76, 77], [77])])
def postriderlaw07_HeadKnown.B21 : List Nat := [0, 1, 3, 7, 15, 7, 39, 103, 7, 487, 999, 2047, 4095, 8191, 16383, 32767, 65535, 131071, 262143, 524287, 262143, 1310719, 262143, 7602175, 15990783, 33554431, 67108863, 134217727, 268435455, 536870911, 1073741823, 2147483647, 4294967295, 8589934591, 4294967295, 21474836479, 55834574847, 137438953471, 274877906943, 549755813887, 1099511627775, 2199023255551, 4398046511103, 8796093022207, 17592186044415, 35184372088831, 17592186044415, 87960930222079, 228698418577407, 562949953421311, 1125899906842623, 2251799813685247, 4503599627370495, 9007199254740991, 18014398509481983, 36028797018963967, 72057594037927935, 144115188075855871, 288230376151711743, 576460752303423487, 1152921504606846975, 2305843009213693951, 4611686018427387903, 9223372036854775807, 18446744073709551615, 36893488147419103231, 73786976294838206463, 147573952589676412927, 295147905179352825855, 590295810358705651711, 1180591620717411303423, 2361183241434822606847, 4722366482869645213695, 9444732965739290427391, 18889465931478580854783, 37778931862957161709567, 75557863725914323419135, 151115727451828646838271, 302231454903657293676543]
theorem postriderlaw07_HeadKnown.tab21 : rtab .any (opsOf Tryd.f8 21) = postriderlaw07_HeadKnown.T21 := by kernel_rfl
theorem postriderlaw07_HeadKnown.bits21 : waitsOk postriderlaw07_HeadKnown.T21.2 postriderlaw07_HeadKnown.B21 = true := by kernel_rfl

end Go.Proofs.YtdciiahlakgikaaDoor.Q
end
