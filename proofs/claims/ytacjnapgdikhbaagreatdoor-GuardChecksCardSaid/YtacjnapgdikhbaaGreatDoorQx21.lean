/- Walks of functions. -/
import Derived.Test.YtacjnapgdikhbaaGreatDoorQx0
import Derived.Test.YtacjnapgdikhbaaGreatDoorQx18
import Derived.Test.YtacjnapgdikhbaaGreatDoorQx9
import Derived.Test.YtacjnapgdikhbaaGreatDoorQx13
set_option linter.unusedSimpArgs false
set_option linter.unusedVariables false
open Go.RowKit Go.Proofs.YtacjnapgdikhbaaGreatDoorW.PrintWords Go.Proofs.YtacjnapgdikhbaaGreatDoorW.PrintLast Go.Proofs.YtacjnapgdikhbaaGreatDoorW.PrintMore
set_option maxHeartbeats 8000000
set_option maxRecDepth 100000
attribute [local go_sem] max2_int min2_int max_two min_two max_three min_three max_four min_four
section
namespace Go.Proofs.YtacjnapgdikhbaaGreatDoor.Q

attribute [local go_sem high] eqA50 eqA52
/-! ### postriderlaw22_tells: function 20 -/
def postriderlaw22_tells.f (k : Nat)  : Option (Bool) := (head_Parse.f k (⟨#[68, 101, 108, 105, 118, 101, 114, 101, 100, 45, 84, 111, 58, 32, 65, 110, 110, 64, 104, 111, 109, 101, 46, 111, 114, 103, 13, 10, 13, 10]⟩ : ByteArray)).bind fun bt384 => ((guard_Check.f k bt384.1 bt384.2.1 bt384.2.2.1 (([(⟨(⟨#[65, 110, 110]⟩ : ByteArray), (⟨#[72, 79, 77, 69, 46, 111, 114, 103]⟩ : ByteArray)⟩ : S50), (⟨(⟨#[98, 111, 98]⟩ : ByteArray), (⟨#[120]⟩ : ByteArray)⟩ : S50)] : List (S50)))).bind fun bt396 => (if bt384.2.2.2 = 0 then (if (bt396.1.length : Int) = 1 then (if 0 < (bt396.1.length : Int) then (if ((((rd_T50 bt396.1 0).f0).toList) == ([98, 111, 98] : List UInt8) && ((((rd_T50 bt396.1 0).f1).toList) == ([120] : List UInt8))) = true then (if (bt396.2.length : Int) = 1 then (if 0 < (bt396.2.length : Int) then (some (((((rd_T52 bt396.2 0).f0.f0).toList) == ([65, 110, 110] : List UInt8) && ((((rd_T52 bt396.2 0).f0.f1).toList) == ([72, 79, 77, 69, 46, 111, 114, 103] : List UInt8))) && (((rd_T52 bt396.2 0).f1) == 554 && ((((rd_T52 bt396.2 0).f2).toList) == ([109, 97, 105, 108, 32, 108, 111, 111, 112] : List UInt8))))) else (none)) else (some false)) else (some false)) else (none)) else (some false)) else (some false)))
theorem postriderlaw22_tells.mono : ∀ k, LeO (postriderlaw22_tells.f k ) (postriderlaw22_tells.f (k + 1) ) := by
 intro  k
 unfold postriderlaw22_tells.f
 repeat' first
   | (with_reducible first | exact guard_Check.mono _ _ _ _ _ | exact head_Parse.mono _ _ | exact LeO.refl _ | exact LeO.none _ | refine LeO.ite ?_ ?_ | refine LeO.bind ?_ (fun _ => ?_))
theorem postriderlaw22_tells.calls (k : Nat)  (r : Bool) (w : World) (hG : Glob w) (hT : r = true) (h : postriderlaw22_tells.f k  = some r) :
  Calls Tryz.prog 20 #[] w fun e w' => e = .returned (.bool r) ∧ Below w.heap.size w w' := by
 have hu24 := Tryz.underlying24
 have hu50 := Tryz.underlying50
 have hu52 := Tryz.underlying52
 have HB := Aside0.mk (Below.refl w.heap.size w)
 have HG := Aside0.mk hG
 clear hG
 have HT_r := Aside0.mk hT
 clear hT
 have H : ((head_Parse.f k (⟨#[68, 101, 108, 105, 118, 101, 114, 101, 100, 45, 84, 111, 58, 32, 65, 110, 110, 64, 104, 111, 109, 101, 46, 111, 114, 103, 13, 10, 13, 10]⟩ : ByteArray)).bind fun bt384 => ((guard_Check.f k bt384.1 bt384.2.1 bt384.2.2.1 (([(⟨(⟨#[65, 110, 110]⟩ : ByteArray), (⟨#[72, 79, 77, 69, 46, 111, 114, 103]⟩ : ByteArray)⟩ : S50), (⟨(⟨#[98, 111, 98]⟩ : ByteArray), (⟨#[120]⟩ : ByteArray)⟩ : S50)] : List (S50)))).bind fun bt396 => (if bt384.2.2.2 = 0 then (if (bt396.1.length : Int) = 1 then (if 0 < (bt396.1.length : Int) then (if ((((rd_T50 bt396.1 0).f0).toList) == ([98, 111, 98] : List UInt8) && ((((rd_T50 bt396.1 0).f1).toList) == ([120] : List UInt8))) = true then (if (bt396.2.length : Int) = 1 then (if 0 < (bt396.2.length : Int) then (some (((((rd_T52 bt396.2 0).f0.f0).toList) == ([65, 110, 110] : List UInt8) && ((((rd_T52 bt396.2 0).f0.f1).toList) == ([72, 79, 77, 69, 46, 111, 114, 103] : List UInt8))) && (((rd_T52 bt396.2 0).f1) == 554 && ((((rd_T52 bt396.2 0).f2).toList) == ([109, 97, 105, 108, 32, 108, 111, 111, 112] : List UInt8))))) else (none)) else (some false)) else (some false)) else (none)) else (some false)) else (some false)))) = some r := h
 clear h
 obtain ⟨⟨t384, t387, t388, t389⟩, A10, H⟩ := Option.bind_eq_some_iff.mp H
 replace H : ((guard_Check.f k t384 t387 t388 (([(⟨(⟨#[65, 110, 110]⟩ : ByteArray), (⟨#[72, 79, 77, 69, 46, 111, 114, 103]⟩ : ByteArray)⟩ : S50), (⟨(⟨#[98, 111, 98]⟩ : ByteArray), (⟨#[120]⟩ : ByteArray)⟩ : S50)] : List (S50)))).bind fun bt396 => (if t389 = 0 then (if (bt396.1.length : Int) = 1 then (if 0 < (bt396.1.length : Int) then (if ((((rd_T50 bt396.1 0).f0).toList) == ([98, 111, 98] : List UInt8) && ((((rd_T50 bt396.1 0).f1).toList) == ([120] : List UInt8))) = true then (if (bt396.2.length : Int) = 1 then (if 0 < (bt396.2.length : Int) then (some (((((rd_T52 bt396.2 0).f0.f0).toList) == ([65, 110, 110] : List UInt8) && ((((rd_T52 bt396.2 0).f0.f1).toList) == ([72, 79, 77, 69, 46, 111, 114, 103] : List UInt8))) && (((rd_T52 bt396.2 0).f1) == 554 && ((((rd_T52 bt396.2 0).f2).toList) == ([109, 97, 105, 108, 32, 108, 111, 111, 112] : List UInt8))))) else (none)) else (some false)) else (some false)) else (none)) else (some false)) else (some false))) = some r := H
 have A1 := Aside0.mk A10
 clear A10
 obtain ⟨y393, hy393⟩ : ∃ y_ : List (S50), y_ = (([(⟨(⟨#[65, 110, 110]⟩ : ByteArray), (⟨#[72, 79, 77, 69, 46, 111, 114, 103]⟩ : ByteArray)⟩ : S50), (⟨(⟨#[98, 111, 98]⟩ : ByteArray), (⟨#[120]⟩ : ByteArray)⟩ : S50)] : List (S50))) := ⟨_, rfl⟩
 replace H : ((guard_Check.f k t384 t387 t388 y393).bind fun bt396 => (if t389 = 0 then (if (bt396.1.length : Int) = 1 then (if 0 < (bt396.1.length : Int) then (if ((((rd_T50 bt396.1 0).f0).toList) == ([98, 111, 98] : List UInt8) && ((((rd_T50 bt396.1 0).f1).toList) == ([120] : List UInt8))) = true then (if (bt396.2.length : Int) = 1 then (if 0 < (bt396.2.length : Int) then (some (((((rd_T52 bt396.2 0).f0.f0).toList) == ([65, 110, 110] : List UInt8) && ((((rd_T52 bt396.2 0).f0.f1).toList) == ([72, 79, 77, 69, 46, 111, 114, 103] : List UInt8))) && (((rd_T52 bt396.2 0).f1) == 554 && ((((rd_T52 bt396.2 0).f2).toList) == ([109, 97, 105, 108, 32, 108, 111, 111, 112] : List UInt8))))) else (none)) else (some false)) else (some false)) else (none)) else (some false)) else (some false))) = some r := by first | (rw [hy393]; with_reducible exact H) | (have H2_ := (Option.bind_some _ _).symm.trans H; rw [hy393]; with_reducible exact H2_) | (have H2_ := (Option.bind_some _ _).symm.trans H; with_reducible exact H2_) | with_reducible exact H | (rw [hy393]; exact H) | exact H
 have Ny393 := Aside0.mk hy393
 clear hy393
 obtain ⟨⟨t396, t399⟩, A20, H⟩ := Option.bind_eq_some_iff.mp H
 replace H : (if t389 = 0 then (if (t396.length : Int) = 1 then (if 0 < (t396.length : Int) then (if ((((rd_T50 t396 0).f0).toList) == ([98, 111, 98] : List UInt8) && ((((rd_T50 t396 0).f1).toList) == ([120] : List UInt8))) = true then (if (t399.length : Int) = 1 then (if 0 < (t399.length : Int) then (some (((((rd_T52 t399 0).f0.f0).toList) == ([65, 110, 110] : List UInt8) && ((((rd_T52 t399 0).f0.f1).toList) == ([72, 79, 77, 69, 46, 111, 114, 103] : List UInt8))) && (((rd_T52 t399 0).f1) == 554 && ((((rd_T52 t399 0).f2).toList) == ([109, 97, 105, 108, 32, 108, 111, 111, 112] : List UInt8))))) else (none)) else (some false)) else (some false)) else (none)) else (some false)) else (some false)) = some r := H
 have A2 := Aside0.mk A20
 clear A20
 by_cases c3 : t389 = 0
 ·rw [if_pos c3] at H
  have c3b0 : (t389 == 0) = true := beq_iff_eq.mpr c3
  have c3b1 : (t389 != 0) = false := bne_eq_false_iff_eq.mpr c3
  clear c3
  by_cases c4 : (t396.length : Int) = 1
  ·rw [if_pos c4] at H
   have c4b0 : ((t396.length : Int) == 1) = true := beq_iff_eq.mpr c4
   have c4b1 : ((t396.length : Int) != 1) = false := bne_eq_false_iff_eq.mpr c4
   clear c4
   by_cases c5 : 0 < (t396.length : Int)
   rotate_left
   ·rw [if_neg c5] at H
    exact ab H
   rw [if_pos c5] at H
   have c5b0 : decide (0 < (t396.length : Int)) = true := decide_eq_true c5
   have c5b1 : decide (0 < t396.length) = true := decide_eq_true (by omega)
   clear c5
   by_cases c6 : ((((rd_T50 t396 0).f0).toList) == ([98, 111, 98] : List UInt8) && ((((rd_T50 t396 0).f1).toList) == ([120] : List UInt8))) = true
   ·rw [if_pos c6] at H
    have c6b0 : ((((rd_T50 t396 0).f0).toList) == ([98, 111, 98] : List UInt8) && ((((rd_T50 t396 0).f1).toList) == ([120] : List UInt8))) = true := c6
    (try (have c6b1 : decide ((((rd_T50 t396 0).f0).toList) = ([98, 111, 98] : List UInt8) && ((((rd_T50 t396 0).f1).toList) == ([120] : List UInt8))) = true := by simpa using c6))
    (try (have c6b2 : ((((rd_T50 t396 0).f0).toList) == ([98, 111, 98] : List UInt8) && ((((rd_T50 t396 0).f1).toList) == ([120] : List UInt8))) = true := by simpa using c6))
    clear c6
    by_cases c7 : (t399.length : Int) = 1
    ·rw [if_pos c7] at H
     have c7b0 : ((t399.length : Int) == 1) = true := beq_iff_eq.mpr c7
     have c7b1 : ((t399.length : Int) != 1) = false := bne_eq_false_iff_eq.mpr c7
     clear c7
     by_cases c8 : 0 < (t399.length : Int)
     rotate_left
     ·rw [if_neg c8] at H
      exact ab H
     rw [if_pos c8] at H
     have c8b0 : decide (0 < (t399.length : Int)) = true := decide_eq_true c8
     have c8b1 : decide (0 < t399.length) = true := decide_eq_true (by omega)
     clear c8
     obtain rfl := Option.some.inj H
     go_enter Tryz.func20, Tryz.ntmps20
     go_wp2_with (first | (go_at_call 21; (with_reducible refine (head_Parse.calls k (⟨#[68, 101, 108, 105, 118, 101, 114, 101, 100, 45, 84, 111, 58, 32, 65, 110, 110, 64, 104, 111, 109, 101, 46, 111, 114, 103, 13, 10, 13, 10]⟩ : ByteArray) t384 t387 t388 t389 _ ?side1 A1.out).mono ?_); (case side1 => exact Glob.below HG.out bl); rintro e w9 ⟨v385, rfl, ho0, hb⟩; have HO386 := Aside0.mk (Kd.R_lower ho0 (below_size bl)); replace HB := Aside0.mk (below_step bl hb); (try clear hb); (try clear hb2); (try clear hk); (try clear hi); (try clear ho0)) | ((with_reducible refine gate_dst (N := 1) rfl ?_); (try (refine gate_guard (by rfl) ?_; dsimp only)); refine box_event ?hg (N := 1) ?hd (cs := #[.slice none 0 0, .string (⟨#[]⟩ : ByteArray), .bool false]) (t := 24) ?hr ?_; (case hd => rfl); (case hg => rfl); (case hr => first | (go_simp; done) | (go_simp; rfl)); intro gb390 hg w10 hbox hb; replace HO386 := Aside0.mk (Kd.R_below (kr HO386.out) hb); have BK390 := Aside0.mk (hbox); have GW390 := Aside0.mk (gz hg : w.heap.size ≤ gb390); have GE390 := Aside0.mk (gz hg : w.heap.size ≤ gb390); replace HB := Aside0.mk (below_step bl hb); clear hb hbox hg; obtain ⟨Ao11, co11, eo11⟩ := Kd.R_slice HO386.out; subst eo11; have hcz12_0 := cz BK390.out 0 (.slice none 0 0); have hcz12_1 := cz BK390.out 1 (.string (⟨#[]⟩ : ByteArray)); have hcz12_2 := cz BK390.out 2 (.bool false); have hfz12_0 := blk_frozen BK390.out 0; have hfz12_1 := blk_frozen BK390.out 1; have hfz12_2 := blk_frozen BK390.out 2) | ((with_reducible refine gate_dst (N := 3) rfl ?_); (try (refine gate_guard (by rfl) ?_; dsimp only)); refine box_event ?hg (N := 3) ?hd (cs := #[.string (⟨#[]⟩ : ByteArray), .string (⟨#[]⟩ : ByteArray)]) (t := 50) ?hr ?_; (case hd => rfl); (case hg => rfl); (case hr => first | (go_simp; done) | (go_simp; rfl)); intro gb391 hg w13 hbox hb; replace HO386 := Aside0.mk (Kd.R_below (by (with_reducible repeat (first | apply Kd.R_alloc | apply Kd.R_drewN | apply Kd.R_drew)); exact (Kd.R_mono (Kd.R_far (p := ⟨gb390, 2, none⟩) (Kd.R_far (p := ⟨gb390, 1, none⟩) (Kd.R_far (p := ⟨gb390, 0, none⟩) (Kd.R_types HO386.out BK390.out (by decide)) (fun _ hk => hk.2) (.slice Ao11 t384.length co11)) (fun _ hk => hk.2) (.string t387)) (fun _ hk => hk.2) (.bool t388)) (fun _ h_ => h_.1))) hb); have BK391 := Aside0.mk (hbox); have GW391 := Aside0.mk (gz hg : w.heap.size ≤ gb391); have GE391 := Aside0.mk (gz hg : w.heap.size ≤ gb391); replace HB := Aside0.mk (below_step bl hb); have NB390_391 := Aside0.mk ((by rw [hg]; exact Nat.ne_of_lt (blk_lt (g := gb390) (o := .cells #[.slice Ao11 t384.length co11, .string t387, .bool t388] 24 (0, 0)) (by (with_reducible repeat (first | refine blk_drewN ?_ _ | refine blk_drew ?_ | refine blk_alloc ?_ _)); refine blk_put (cs := #[.slice Ao11 t384.length co11, .string t387, .bool false]) ?_ 2 _ rfl; (with_reducible repeat (first | refine blk_drewN ?_ _ | refine blk_drew ?_ | refine blk_alloc ?_ _)); refine blk_put (cs := #[.slice Ao11 t384.length co11, .string (⟨#[]⟩ : ByteArray), .bool false]) ?_ 1 _ rfl; (with_reducible repeat (first | refine blk_drewN ?_ _ | refine blk_drew ?_ | refine blk_alloc ?_ _)); refine blk_put (cs := #[.slice none 0 0, .string (⟨#[]⟩ : ByteArray), .bool false]) ?_ 0 _ rfl; (with_reducible repeat (first | refine blk_drewN ?_ _ | refine blk_drew ?_ | refine blk_alloc ?_ _)); exact BK390.out)) : gb390 ≠ gb391)); have NB391_390 := Aside0.mk ((by rw [hg]; exact Nat.ne_of_gt (blk_lt (g := gb390) (o := .cells #[.slice Ao11 t384.length co11, .string t387, .bool t388] 24 (0, 0)) (by (with_reducible repeat (first | refine blk_drewN ?_ _ | refine blk_drew ?_ | refine blk_alloc ?_ _)); refine blk_put (cs := #[.slice Ao11 t384.length co11, .string t387, .bool false]) ?_ 2 _ rfl; (with_reducible repeat (first | refine blk_drewN ?_ _ | refine blk_drew ?_ | refine blk_alloc ?_ _)); refine blk_put (cs := #[.slice Ao11 t384.length co11, .string (⟨#[]⟩ : ByteArray), .bool false]) ?_ 1 _ rfl; (with_reducible repeat (first | refine blk_drewN ?_ _ | refine blk_drew ?_ | refine blk_alloc ?_ _)); refine blk_put (cs := #[.slice none 0 0, .string (⟨#[]⟩ : ByteArray), .bool false]) ?_ 0 _ rfl; (with_reducible repeat (first | refine blk_drewN ?_ _ | refine blk_drew ?_ | refine blk_alloc ?_ _)); exact BK390.out)) : gb391 ≠ gb390)); replace BK390 := Aside0.mk (blk_below (g := gb390) (o := .cells #[.slice Ao11 t384.length co11, .string t387, .bool t388] 24 (0, 0)) (by (with_reducible repeat (first | refine blk_drewN ?_ _ | refine blk_drew ?_ | refine blk_alloc ?_ _)); refine blk_put (cs := #[.slice Ao11 t384.length co11, .string t387, .bool false]) ?_ 2 _ rfl; (with_reducible repeat (first | refine blk_drewN ?_ _ | refine blk_drew ?_ | refine blk_alloc ?_ _)); refine blk_put (cs := #[.slice Ao11 t384.length co11, .string (⟨#[]⟩ : ByteArray), .bool false]) ?_ 1 _ rfl; (with_reducible repeat (first | refine blk_drewN ?_ _ | refine blk_drew ?_ | refine blk_alloc ?_ _)); refine blk_put (cs := #[.slice none 0 0, .string (⟨#[]⟩ : ByteArray), .bool false]) ?_ 0 _ rfl; (with_reducible repeat (first | refine blk_drewN ?_ _ | refine blk_drew ?_ | refine blk_alloc ?_ _)); exact BK390.out) hb); clear hb hbox hg) | ((with_reducible refine gate_dst (N := 4) rfl ?_); (try (refine gate_guard (by rfl) ?_; dsimp only)); refine box_event ?hg (N := 4) ?hd (cs := #[.string (⟨#[]⟩ : ByteArray), .string (⟨#[]⟩ : ByteArray)]) (t := 50) ?hr ?_; (case hd => rfl); (case hg => rfl); (case hr => first | (go_simp; done) | (go_simp; rfl)); intro gb392 hg w14 hbox hb; replace HO386 := Aside0.mk (Kd.R_below (kr HO386.out) hb); have BK392 := Aside0.mk (hbox); have GW392 := Aside0.mk (gz hg : w.heap.size ≤ gb392); have GE392 := Aside0.mk (gz hg : w.heap.size ≤ gb392); replace HB := Aside0.mk (below_step bl hb); have NB390_392 := Aside0.mk (nl hg BK390.out : gb390 ≠ gb392); have NB392_390 := Aside0.mk (ng hg BK390.out : gb392 ≠ gb390); replace BK390 := Aside0.mk (kb BK390.out hb); have NB391_392 := Aside0.mk (nl hg BK391.out : gb391 ≠ gb392); have NB392_391 := Aside0.mk (ng hg BK391.out : gb392 ≠ gb391); replace BK391 := Aside0.mk (kb BK391.out hb); clear hb hbox hg; have hnb15 := NB391_390.out; have hnc15 := NB390_391.out; have hnb16 := NB391_392.out; have hnc16 := NB392_391.out; have hcz17_0 := cz BK391.out 0 (.string (⟨#[]⟩ : ByteArray)); have hcz17_1 := cz BK391.out 1 (.string (⟨#[]⟩ : ByteArray)); have hfz17_0 := blk_frozen BK391.out 0; have hfz17_1 := blk_frozen BK391.out 1; have hnb18 := NB392_390.out; have hnc18 := NB390_392.out; have hcz19_0 := cz BK392.out 0 (.string (⟨#[]⟩ : ByteArray)); have hcz19_1 := cz BK392.out 1 (.string (⟨#[]⟩ : ByteArray)); have hfz19_0 := blk_frozen BK392.out 0; have hfz19_1 := blk_frozen BK392.out 1; have hcz20_0 := cz BK390.out 0 (.slice Ao11 t384.length co11); have hcz20_1 := cz BK390.out 1 (.string t387); have hcz20_2 := cz BK390.out 2 (.bool t388); have hfz20_0 := blk_frozen BK390.out 0; have hfz20_1 := blk_frozen BK390.out 1; have hfz20_2 := blk_frozen BK390.out 2) | ((with_reducible refine gate_dst (N := 17) rfl ?_); (try (refine gate_guard (by rfl) ?_; dsimp only)); refine Kd.R_lit k50 _ 50 ?hg (N := 17) ?hd (xs := ([(⟨(⟨#[65, 110, 110]⟩ : ByteArray), (⟨#[72, 79, 77, 69, 46, 111, 114, 103]⟩ : ByteArray)⟩ : S50), (⟨(⟨#[98, 111, 98]⟩ : ByteArray), (⟨#[120]⟩ : ByteArray)⟩ : S50)] : List (S50))) (inner := [.string (⟨#[65, 110, 110]⟩ : ByteArray), .string (⟨#[72, 79, 77, 69, 46, 111, 114, 103]⟩ : ByteArray), .string (⟨#[98, 111, 98]⟩ : ByteArray), .string (⟨#[120]⟩ : ByteArray)]) (ok := fun _ => True) (okp := fun _ => True) ?hr ?hp (fun _ hk => hk) trivial (Below.refl _ _) (Nat.le_refl _) (by simp) ?_; (case hd => rfl); (case hg => rfl); (case hr => first | (go_simp; done) | (go_simp; rfl)); (case hp => exact (Reps.c2 (show Kd.M k50 _ _ _ (⟨(⟨#[65, 110, 110]⟩ : ByteArray), (⟨#[72, 79, 77, 69, 46, 111, 114, 103]⟩ : ByteArray)⟩ : S50) [.string (⟨#[65, 110, 110]⟩ : ByteArray), .string (⟨#[72, 79, 77, 69, 46, 111, 114, 103]⟩ : ByteArray)] from (k50_mkM _ _ _ (⟨(⟨#[65, 110, 110]⟩ : ByteArray), (⟨#[72, 79, 77, 69, 46, 111, 114, 103]⟩ : ByteArray)⟩ : S50) )) (Reps.c2 (show Kd.M k50 _ _ _ (⟨(⟨#[98, 111, 98]⟩ : ByteArray), (⟨#[120]⟩ : ByteArray)⟩ : S50) [.string (⟨#[98, 111, 98]⟩ : ByteArray), .string (⟨#[120]⟩ : ByteArray)] from (k50_mkM _ _ _ (⟨(⟨#[98, 111, 98]⟩ : ByteArray), (⟨#[120]⟩ : ByteArray)⟩ : S50) )) (Reps.none _ _)))); intro v394 w21 ho22 hb hg_ hnew_; clear hg_ hnew_; (first | rw [← Ny393.out] at ho22 | (simp only [Int.reduceToNat] at ho22; rw [← Ny393.out] at ho22)); replace HO386 := Aside0.mk (Kd.R_below (by (with_reducible repeat (first | apply Kd.R_alloc | apply Kd.R_drewN | apply Kd.R_drew)); exact (Kd.R_mono (Kd.R_mono (Kd.R_far (p := ⟨gb392, 1, none⟩) (Kd.R_far (p := ⟨gb392, 0, none⟩) (Kd.R_far (p := ⟨gb391, 1, none⟩) (Kd.R_far (p := ⟨gb391, 0, none⟩) (Kd.R_types (Kd.R_types HO386.out BK391.out (by decide)) BK392.out (by decide)) (fun _ hk => hk.1.2) (.string (⟨#[65, 110, 110]⟩ : ByteArray))) (fun _ hk => hk.1.2) (.string (⟨#[72, 79, 77, 69, 46, 111, 114, 103]⟩ : ByteArray))) (fun _ hk => hk.2) (.string (⟨#[98, 111, 98]⟩ : ByteArray))) (fun _ hk => hk.2) (.string (⟨#[120]⟩ : ByteArray))) (fun _ h_ => h_.1)) (fun _ h_ => h_.1))) hb); have HO395 := Aside0.mk (Kd.R_lower (Kd.R_newB (Kd.R_newB ho22 (g := gb391) (o := .cells #[.string (⟨#[65, 110, 110]⟩ : ByteArray), .string (⟨#[72, 79, 77, 69, 46, 111, 114, 103]⟩ : ByteArray)] 50 (0, 0)) (by (with_reducible repeat (first | refine blk_drewN ?_ _ | refine blk_drew ?_ | refine blk_alloc ?_ _)); refine blk_far ?_ NB391_392.out _; (with_reducible repeat (first | refine blk_drewN ?_ _ | refine blk_drew ?_ | refine blk_alloc ?_ _)); refine blk_far ?_ NB391_392.out _; (with_reducible repeat (first | refine blk_drewN ?_ _ | refine blk_drew ?_ | refine blk_alloc ?_ _)); refine blk_put (cs := #[.string (⟨#[65, 110, 110]⟩ : ByteArray), .string (⟨#[]⟩ : ByteArray)]) ?_ 1 _ rfl; (with_reducible repeat (first | refine blk_drewN ?_ _ | refine blk_drew ?_ | refine blk_alloc ?_ _)); refine blk_put (cs := #[.string (⟨#[]⟩ : ByteArray), .string (⟨#[]⟩ : ByteArray)]) ?_ 0 _ rfl; (with_reducible repeat (first | refine blk_drewN ?_ _ | refine blk_drew ?_ | refine blk_alloc ?_ _)); exact BK391.out)) (g := gb392) (o := .cells #[.string (⟨#[98, 111, 98]⟩ : ByteArray), .string (⟨#[120]⟩ : ByteArray)] 50 (0, 0)) (by (with_reducible repeat (first | refine blk_drewN ?_ _ | refine blk_drew ?_ | refine blk_alloc ?_ _)); refine blk_put (cs := #[.string (⟨#[98, 111, 98]⟩ : ByteArray), .string (⟨#[]⟩ : ByteArray)]) ?_ 1 _ rfl; (with_reducible repeat (first | refine blk_drewN ?_ _ | refine blk_drew ?_ | refine blk_alloc ?_ _)); refine blk_put (cs := #[.string (⟨#[]⟩ : ByteArray), .string (⟨#[]⟩ : ByteArray)]) ?_ 0 _ rfl; (with_reducible repeat (first | refine blk_drewN ?_ _ | refine blk_drew ?_ | refine blk_alloc ?_ _)); refine blk_far ?_ NB392_391.out _; (with_reducible repeat (first | refine blk_drewN ?_ _ | refine blk_drew ?_ | refine blk_alloc ?_ _)); refine blk_far ?_ NB392_391.out _; (with_reducible repeat (first | refine blk_drewN ?_ _ | refine blk_drew ?_ | refine blk_alloc ?_ _)); exact BK392.out)) (below_size bl)); replace BK390 := Aside0.mk (kb BK390.out hb); replace BK391 := Aside0.mk (blk_below (g := gb391) (o := .cells #[.string (⟨#[65, 110, 110]⟩ : ByteArray), .string (⟨#[72, 79, 77, 69, 46, 111, 114, 103]⟩ : ByteArray)] 50 (0, 0)) (by (with_reducible repeat (first | refine blk_drewN ?_ _ | refine blk_drew ?_ | refine blk_alloc ?_ _)); refine blk_far ?_ NB391_392.out _; (with_reducible repeat (first | refine blk_drewN ?_ _ | refine blk_drew ?_ | refine blk_alloc ?_ _)); refine blk_far ?_ NB391_392.out _; (with_reducible repeat (first | refine blk_drewN ?_ _ | refine blk_drew ?_ | refine blk_alloc ?_ _)); refine blk_put (cs := #[.string (⟨#[65, 110, 110]⟩ : ByteArray), .string (⟨#[]⟩ : ByteArray)]) ?_ 1 _ rfl; (with_reducible repeat (first | refine blk_drewN ?_ _ | refine blk_drew ?_ | refine blk_alloc ?_ _)); refine blk_put (cs := #[.string (⟨#[]⟩ : ByteArray), .string (⟨#[]⟩ : ByteArray)]) ?_ 0 _ rfl; (with_reducible repeat (first | refine blk_drewN ?_ _ | refine blk_drew ?_ | refine blk_alloc ?_ _)); exact BK391.out) hb); replace BK392 := Aside0.mk (blk_below (g := gb392) (o := .cells #[.string (⟨#[98, 111, 98]⟩ : ByteArray), .string (⟨#[120]⟩ : ByteArray)] 50 (0, 0)) (by (with_reducible repeat (first | refine blk_drewN ?_ _ | refine blk_drew ?_ | refine blk_alloc ?_ _)); refine blk_put (cs := #[.string (⟨#[98, 111, 98]⟩ : ByteArray), .string (⟨#[]⟩ : ByteArray)]) ?_ 1 _ rfl; (with_reducible repeat (first | refine blk_drewN ?_ _ | refine blk_drew ?_ | refine blk_alloc ?_ _)); refine blk_put (cs := #[.string (⟨#[]⟩ : ByteArray), .string (⟨#[]⟩ : ByteArray)]) ?_ 0 _ rfl; (with_reducible repeat (first | refine blk_drewN ?_ _ | refine blk_drew ?_ | refine blk_alloc ?_ _)); refine blk_far ?_ NB392_391.out _; (with_reducible repeat (first | refine blk_drewN ?_ _ | refine blk_drew ?_ | refine blk_alloc ?_ _)); refine blk_far ?_ NB392_391.out _; (with_reducible repeat (first | refine blk_drewN ?_ _ | refine blk_drew ?_ | refine blk_alloc ?_ _)); exact BK392.out) hb); replace HB := Aside0.mk (below_step bl hb); clear hb ho22; obtain ⟨Ao23, co23, eo23⟩ := Kd.R_slice HO395.out; subst eo23) | (go_at_call 11; (with_reducible refine (guard_Check.calls k _ _ t384 t387 t388 _ _ y393 t396 t399 _ ?side1 ?side2 ?side3 ?side4 ?side5 A2.out).mono ?_); (case side1 => repeat (first | exact (Kd.R_reads' HO386.out).2.2 | (with_reducible refine Kd.C_alloc ?_ _) | (with_reducible refine Kd.C_drewN ?_ _) | (with_reducible refine Kd.C_drew ?_))); (case side2 => exact (Kd.R_reads' HO386.out).2.1); (case side3 => repeat (first | exact (Kd.R_reads' HO395.out).2.2 | (with_reducible refine Kd.C_alloc ?_ _) | (with_reducible refine Kd.C_drewN ?_ _) | (with_reducible refine Kd.C_drew ?_))); (case side4 => exact (Kd.R_reads' HO395.out).2.1); (case side5 => exact Glob.below HG.out bl); rintro e w24 ⟨v397, v400, rfl, ho0, ho1, hb⟩; replace HO386 := Aside0.mk (Kd.R_below (kr HO386.out) hb); have HO398 := Aside0.mk (Kd.R_lower (Kd.R_newB (Kd.R_newB (Kd.R_new' ho0 (Kd.R_lt (kr HO395.out))) (g := gb391) (o := .cells #[.string (⟨#[65, 110, 110]⟩ : ByteArray), .string (⟨#[72, 79, 77, 69, 46, 111, 114, 103]⟩ : ByteArray)] 50 (0, 0)) (bk BK391.out)) (g := gb392) (o := .cells #[.string (⟨#[98, 111, 98]⟩ : ByteArray), .string (⟨#[120]⟩ : ByteArray)] 50 (0, 0)) (bk BK392.out)) (below_size bl)); replace HO395 := Aside0.mk (Kd.R_elder' (kr HO395.out) (Kd.R_base ho0) hb); have HO401 := Aside0.mk (Kd.R_lower ho1 (below_size bl)); replace BK390 := Aside0.mk (kb BK390.out hb); replace BK391 := Aside0.mk (kb BK391.out hb); replace BK392 := Aside0.mk (kb BK392.out hb); replace HB := Aside0.mk (below_step bl hb); (try clear hb); (try clear hb2); (try clear hk); (try clear hi); (try clear ho0); (try clear ho1); obtain ⟨Ao25, co25, eo25⟩ := Kd.R_slice HO398.out; subst eo25; have p402 : 0 ≤ (0 : Int) := (by omega); have q402 : 0 < (t396.length : Int) := od; obtain ⟨ad402, e402, hx402_0, hx402_1⟩ := at_T50 (Kd.R_reads' HO398.out).2.2 0 p402 q402; cases e402; have qi402 : (0 < t396.length) = True := eq_true (by omega); (try rw [show ((0 : Int)).toNat = 0 from rfl] at hx402_0); (try rw [show 0 * 2 = 0 from rfl] at hx402_0); (try rw [Addr.add_zero'] at hx402_0); (try rw [show ((0 : Int)).toNat = 0 from rfl] at hx402_1); (try rw [show 0 * 2 = 0 from rfl] at hx402_1); (try rw [Addr.add_zero'] at hx402_1); replace p402 := eq_true p402; replace q402 := eq_true q402; have hcz26_0 := cz BK392.out 0 (.string (⟨#[98, 111, 98]⟩ : ByteArray)); have hcz26_1 := cz BK392.out 1 (.string (⟨#[120]⟩ : ByteArray)); have hfz26_0 := blk_frozen BK392.out 0; have hfz26_1 := blk_frozen BK392.out 1; obtain ⟨Ao27, co27, eo27⟩ := Kd.R_slice HO401.out; subst eo27; have p403 : 0 ≤ (0 : Int) := (by omega); have q403 : 0 < (t399.length : Int) := od; obtain ⟨ad403, e403, hx403_0, hx403_1, hx403_2, hx403_3⟩ := at_T52 (Kd.R_reads' HO401.out).2.2 0 p403 q403; cases e403; have qi403 : (0 < t399.length) = True := eq_true (by omega); (try rw [show ((0 : Int)).toNat = 0 from rfl] at hx403_0); (try rw [show 0 * 4 = 0 from rfl] at hx403_0); (try rw [Addr.add_zero'] at hx403_0); (try rw [show ((0 : Int)).toNat = 0 from rfl] at hx403_1); (try rw [show 0 * 4 = 0 from rfl] at hx403_1); (try rw [Addr.add_zero'] at hx403_1); (try rw [show ((0 : Int)).toNat = 0 from rfl] at hx403_2); (try rw [show 0 * 4 = 0 from rfl] at hx403_2); (try rw [Addr.add_zero'] at hx403_2); (try rw [show ((0 : Int)).toNat = 0 from rfl] at hx403_3); (try rw [show 0 * 4 = 0 from rfl] at hx403_3); (try rw [Addr.add_zero'] at hx403_3); replace p403 := eq_true p403; replace q403 := eq_true q403; have hcz28_0 := cz BK391.out 0 (.string (⟨#[65, 110, 110]⟩ : ByteArray)); have hcz28_1 := cz BK391.out 1 (.string (⟨#[72, 79, 77, 69, 46, 111, 114, 103]⟩ : ByteArray)); have hfz28_0 := blk_frozen BK391.out 0; have hfz28_1 := blk_frozen BK391.out 1))
     repeat (go_quiet (fail); try go_wp2_with (first | (go_at_call 21; (with_reducible refine (head_Parse.calls k (⟨#[68, 101, 108, 105, 118, 101, 114, 101, 100, 45, 84, 111, 58, 32, 65, 110, 110, 64, 104, 111, 109, 101, 46, 111, 114, 103, 13, 10, 13, 10]⟩ : ByteArray) t384 t387 t388 t389 _ ?side1 A1.out).mono ?_); (case side1 => exact Glob.below HG.out bl); rintro e w9 ⟨v385, rfl, ho0, hb⟩; have HO386 := Aside0.mk (Kd.R_lower ho0 (below_size bl)); replace HB := Aside0.mk (below_step bl hb); (try clear hb); (try clear hb2); (try clear hk); (try clear hi); (try clear ho0)) | ((with_reducible refine gate_dst (N := 1) rfl ?_); (try (refine gate_guard (by rfl) ?_; dsimp only)); refine box_event ?hg (N := 1) ?hd (cs := #[.slice none 0 0, .string (⟨#[]⟩ : ByteArray), .bool false]) (t := 24) ?hr ?_; (case hd => rfl); (case hg => rfl); (case hr => first | (go_simp; done) | (go_simp; rfl)); intro gb390 hg w10 hbox hb; replace HO386 := Aside0.mk (Kd.R_below (kr HO386.out) hb); have BK390 := Aside0.mk (hbox); have GW390 := Aside0.mk (gz hg : w.heap.size ≤ gb390); have GE390 := Aside0.mk (gz hg : w.heap.size ≤ gb390); replace HB := Aside0.mk (below_step bl hb); clear hb hbox hg; obtain ⟨Ao11, co11, eo11⟩ := Kd.R_slice HO386.out; subst eo11; have hcz12_0 := cz BK390.out 0 (.slice none 0 0); have hcz12_1 := cz BK390.out 1 (.string (⟨#[]⟩ : ByteArray)); have hcz12_2 := cz BK390.out 2 (.bool false); have hfz12_0 := blk_frozen BK390.out 0; have hfz12_1 := blk_frozen BK390.out 1; have hfz12_2 := blk_frozen BK390.out 2) | ((with_reducible refine gate_dst (N := 3) rfl ?_); (try (refine gate_guard (by rfl) ?_; dsimp only)); refine box_event ?hg (N := 3) ?hd (cs := #[.string (⟨#[]⟩ : ByteArray), .string (⟨#[]⟩ : ByteArray)]) (t := 50) ?hr ?_; (case hd => rfl); (case hg => rfl); (case hr => first | (go_simp; done) | (go_simp; rfl)); intro gb391 hg w13 hbox hb; replace HO386 := Aside0.mk (Kd.R_below (by (with_reducible repeat (first | apply Kd.R_alloc | apply Kd.R_drewN | apply Kd.R_drew)); exact (Kd.R_mono (Kd.R_far (p := ⟨gb390, 2, none⟩) (Kd.R_far (p := ⟨gb390, 1, none⟩) (Kd.R_far (p := ⟨gb390, 0, none⟩) (Kd.R_types HO386.out BK390.out (by decide)) (fun _ hk => hk.2) (.slice Ao11 t384.length co11)) (fun _ hk => hk.2) (.string t387)) (fun _ hk => hk.2) (.bool t388)) (fun _ h_ => h_.1))) hb); have BK391 := Aside0.mk (hbox); have GW391 := Aside0.mk (gz hg : w.heap.size ≤ gb391); have GE391 := Aside0.mk (gz hg : w.heap.size ≤ gb391); replace HB := Aside0.mk (below_step bl hb); have NB390_391 := Aside0.mk ((by rw [hg]; exact Nat.ne_of_lt (blk_lt (g := gb390) (o := .cells #[.slice Ao11 t384.length co11, .string t387, .bool t388] 24 (0, 0)) (by (with_reducible repeat (first | refine blk_drewN ?_ _ | refine blk_drew ?_ | refine blk_alloc ?_ _)); refine blk_put (cs := #[.slice Ao11 t384.length co11, .string t387, .bool false]) ?_ 2 _ rfl; (with_reducible repeat (first | refine blk_drewN ?_ _ | refine blk_drew ?_ | refine blk_alloc ?_ _)); refine blk_put (cs := #[.slice Ao11 t384.length co11, .string (⟨#[]⟩ : ByteArray), .bool false]) ?_ 1 _ rfl; (with_reducible repeat (first | refine blk_drewN ?_ _ | refine blk_drew ?_ | refine blk_alloc ?_ _)); refine blk_put (cs := #[.slice none 0 0, .string (⟨#[]⟩ : ByteArray), .bool false]) ?_ 0 _ rfl; (with_reducible repeat (first | refine blk_drewN ?_ _ | refine blk_drew ?_ | refine blk_alloc ?_ _)); exact BK390.out)) : gb390 ≠ gb391)); have NB391_390 := Aside0.mk ((by rw [hg]; exact Nat.ne_of_gt (blk_lt (g := gb390) (o := .cells #[.slice Ao11 t384.length co11, .string t387, .bool t388] 24 (0, 0)) (by (with_reducible repeat (first | refine blk_drewN ?_ _ | refine blk_drew ?_ | refine blk_alloc ?_ _)); refine blk_put (cs := #[.slice Ao11 t384.length co11, .string t387, .bool false]) ?_ 2 _ rfl; (with_reducible repeat (first | refine blk_drewN ?_ _ | refine blk_drew ?_ | refine blk_alloc ?_ _)); refine blk_put (cs := #[.slice Ao11 t384.length co11, .string (⟨#[]⟩ : ByteArray), .bool false]) ?_ 1 _ rfl; (with_reducible repeat (first | refine blk_drewN ?_ _ | refine blk_drew ?_ | refine blk_alloc ?_ _)); refine blk_put (cs := #[.slice none 0 0, .string (⟨#[]⟩ : ByteArray), .bool false]) ?_ 0 _ rfl; (with_reducible repeat (first | refine blk_drewN ?_ _ | refine blk_drew ?_ | refine blk_alloc ?_ _)); exact BK390.out)) : gb391 ≠ gb390)); replace BK390 := Aside0.mk (blk_below (g := gb390) (o := .cells #[.slice Ao11 t384.length co11, .string t387, .bool t388] 24 (0, 0)) (by (with_reducible repeat (first | refine blk_drewN ?_ _ | refine blk_drew ?_ | refine blk_alloc ?_ _)); refine blk_put (cs := #[.slice Ao11 t384.length co11, .string t387, .bool false]) ?_ 2 _ rfl; (with_reducible repeat (first | refine blk_drewN ?_ _ | refine blk_drew ?_ | refine blk_alloc ?_ _)); refine blk_put (cs := #[.slice Ao11 t384.length co11, .string (⟨#[]⟩ : ByteArray), .bool false]) ?_ 1 _ rfl; (with_reducible repeat (first | refine blk_drewN ?_ _ | refine blk_drew ?_ | refine blk_alloc ?_ _)); refine blk_put (cs := #[.slice none 0 0, .string (⟨#[]⟩ : ByteArray), .bool false]) ?_ 0 _ rfl; (with_reducible repeat (first | refine blk_drewN ?_ _ | refine blk_drew ?_ | refine blk_alloc ?_ _)); exact BK390.out) hb); clear hb hbox hg) | ((with_reducible refine gate_dst (N := 4) rfl ?_); (try (refine gate_guard (by rfl) ?_; dsimp only)); refine box_event ?hg (N := 4) ?hd (cs := #[.string (⟨#[]⟩ : ByteArray), .string (⟨#[]⟩ : ByteArray)]) (t := 50) ?hr ?_; (case hd => rfl); (case hg => rfl); (case hr => first | (go_simp; done) | (go_simp; rfl)); intro gb392 hg w14 hbox hb; replace HO386 := Aside0.mk (Kd.R_below (kr HO386.out) hb); have BK392 := Aside0.mk (hbox); have GW392 := Aside0.mk (gz hg : w.heap.size ≤ gb392); have GE392 := Aside0.mk (gz hg : w.heap.size ≤ gb392); replace HB := Aside0.mk (below_step bl hb); have NB390_392 := Aside0.mk (nl hg BK390.out : gb390 ≠ gb392); have NB392_390 := Aside0.mk (ng hg BK390.out : gb392 ≠ gb390); replace BK390 := Aside0.mk (kb BK390.out hb); have NB391_392 := Aside0.mk (nl hg BK391.out : gb391 ≠ gb392); have NB392_391 := Aside0.mk (ng hg BK391.out : gb392 ≠ gb391); replace BK391 := Aside0.mk (kb BK391.out hb); clear hb hbox hg; have hnb15 := NB391_390.out; have hnc15 := NB390_391.out; have hnb16 := NB391_392.out; have hnc16 := NB392_391.out; have hcz17_0 := cz BK391.out 0 (.string (⟨#[]⟩ : ByteArray)); have hcz17_1 := cz BK391.out 1 (.string (⟨#[]⟩ : ByteArray)); have hfz17_0 := blk_frozen BK391.out 0; have hfz17_1 := blk_frozen BK391.out 1; have hnb18 := NB392_390.out; have hnc18 := NB390_392.out; have hcz19_0 := cz BK392.out 0 (.string (⟨#[]⟩ : ByteArray)); have hcz19_1 := cz BK392.out 1 (.string (⟨#[]⟩ : ByteArray)); have hfz19_0 := blk_frozen BK392.out 0; have hfz19_1 := blk_frozen BK392.out 1; have hcz20_0 := cz BK390.out 0 (.slice Ao11 t384.length co11); have hcz20_1 := cz BK390.out 1 (.string t387); have hcz20_2 := cz BK390.out 2 (.bool t388); have hfz20_0 := blk_frozen BK390.out 0; have hfz20_1 := blk_frozen BK390.out 1; have hfz20_2 := blk_frozen BK390.out 2) | ((with_reducible refine gate_dst (N := 17) rfl ?_); (try (refine gate_guard (by rfl) ?_; dsimp only)); refine Kd.R_lit k50 _ 50 ?hg (N := 17) ?hd (xs := ([(⟨(⟨#[65, 110, 110]⟩ : ByteArray), (⟨#[72, 79, 77, 69, 46, 111, 114, 103]⟩ : ByteArray)⟩ : S50), (⟨(⟨#[98, 111, 98]⟩ : ByteArray), (⟨#[120]⟩ : ByteArray)⟩ : S50)] : List (S50))) (inner := [.string (⟨#[65, 110, 110]⟩ : ByteArray), .string (⟨#[72, 79, 77, 69, 46, 111, 114, 103]⟩ : ByteArray), .string (⟨#[98, 111, 98]⟩ : ByteArray), .string (⟨#[120]⟩ : ByteArray)]) (ok := fun _ => True) (okp := fun _ => True) ?hr ?hp (fun _ hk => hk) trivial (Below.refl _ _) (Nat.le_refl _) (by simp) ?_; (case hd => rfl); (case hg => rfl); (case hr => first | (go_simp; done) | (go_simp; rfl)); (case hp => exact (Reps.c2 (show Kd.M k50 _ _ _ (⟨(⟨#[65, 110, 110]⟩ : ByteArray), (⟨#[72, 79, 77, 69, 46, 111, 114, 103]⟩ : ByteArray)⟩ : S50) [.string (⟨#[65, 110, 110]⟩ : ByteArray), .string (⟨#[72, 79, 77, 69, 46, 111, 114, 103]⟩ : ByteArray)] from (k50_mkM _ _ _ (⟨(⟨#[65, 110, 110]⟩ : ByteArray), (⟨#[72, 79, 77, 69, 46, 111, 114, 103]⟩ : ByteArray)⟩ : S50) )) (Reps.c2 (show Kd.M k50 _ _ _ (⟨(⟨#[98, 111, 98]⟩ : ByteArray), (⟨#[120]⟩ : ByteArray)⟩ : S50) [.string (⟨#[98, 111, 98]⟩ : ByteArray), .string (⟨#[120]⟩ : ByteArray)] from (k50_mkM _ _ _ (⟨(⟨#[98, 111, 98]⟩ : ByteArray), (⟨#[120]⟩ : ByteArray)⟩ : S50) )) (Reps.none _ _)))); intro v394 w21 ho22 hb hg_ hnew_; clear hg_ hnew_; (first | rw [← Ny393.out] at ho22 | (simp only [Int.reduceToNat] at ho22; rw [← Ny393.out] at ho22)); replace HO386 := Aside0.mk (Kd.R_below (by (with_reducible repeat (first | apply Kd.R_alloc | apply Kd.R_drewN | apply Kd.R_drew)); exact (Kd.R_mono (Kd.R_mono (Kd.R_far (p := ⟨gb392, 1, none⟩) (Kd.R_far (p := ⟨gb392, 0, none⟩) (Kd.R_far (p := ⟨gb391, 1, none⟩) (Kd.R_far (p := ⟨gb391, 0, none⟩) (Kd.R_types (Kd.R_types HO386.out BK391.out (by decide)) BK392.out (by decide)) (fun _ hk => hk.1.2) (.string (⟨#[65, 110, 110]⟩ : ByteArray))) (fun _ hk => hk.1.2) (.string (⟨#[72, 79, 77, 69, 46, 111, 114, 103]⟩ : ByteArray))) (fun _ hk => hk.2) (.string (⟨#[98, 111, 98]⟩ : ByteArray))) (fun _ hk => hk.2) (.string (⟨#[120]⟩ : ByteArray))) (fun _ h_ => h_.1)) (fun _ h_ => h_.1))) hb); have HO395 := Aside0.mk (Kd.R_lower (Kd.R_newB (Kd.R_newB ho22 (g := gb391) (o := .cells #[.string (⟨#[65, 110, 110]⟩ : ByteArray), .string (⟨#[72, 79, 77, 69, 46, 111, 114, 103]⟩ : ByteArray)] 50 (0, 0)) (by (with_reducible repeat (first | refine blk_drewN ?_ _ | refine blk_drew ?_ | refine blk_alloc ?_ _)); refine blk_far ?_ NB391_392.out _; (with_reducible repeat (first | refine blk_drewN ?_ _ | refine blk_drew ?_ | refine blk_alloc ?_ _)); refine blk_far ?_ NB391_392.out _; (with_reducible repeat (first | refine blk_drewN ?_ _ | refine blk_drew ?_ | refine blk_alloc ?_ _)); refine blk_put (cs := #[.string (⟨#[65, 110, 110]⟩ : ByteArray), .string (⟨#[]⟩ : ByteArray)]) ?_ 1 _ rfl; (with_reducible repeat (first | refine blk_drewN ?_ _ | refine blk_drew ?_ | refine blk_alloc ?_ _)); refine blk_put (cs := #[.string (⟨#[]⟩ : ByteArray), .string (⟨#[]⟩ : ByteArray)]) ?_ 0 _ rfl; (with_reducible repeat (first | refine blk_drewN ?_ _ | refine blk_drew ?_ | refine blk_alloc ?_ _)); exact BK391.out)) (g := gb392) (o := .cells #[.string (⟨#[98, 111, 98]⟩ : ByteArray), .string (⟨#[120]⟩ : ByteArray)] 50 (0, 0)) (by (with_reducible repeat (first | refine blk_drewN ?_ _ | refine blk_drew ?_ | refine blk_alloc ?_ _)); refine blk_put (cs := #[.string (⟨#[98, 111, 98]⟩ : ByteArray), .string (⟨#[]⟩ : ByteArray)]) ?_ 1 _ rfl; (with_reducible repeat (first | refine blk_drewN ?_ _ | refine blk_drew ?_ | refine blk_alloc ?_ _)); refine blk_put (cs := #[.string (⟨#[]⟩ : ByteArray), .string (⟨#[]⟩ : ByteArray)]) ?_ 0 _ rfl; (with_reducible repeat (first | refine blk_drewN ?_ _ | refine blk_drew ?_ | refine blk_alloc ?_ _)); refine blk_far ?_ NB392_391.out _; (with_reducible repeat (first | refine blk_drewN ?_ _ | refine blk_drew ?_ | refine blk_alloc ?_ _)); refine blk_far ?_ NB392_391.out _; (with_reducible repeat (first | refine blk_drewN ?_ _ | refine blk_drew ?_ | refine blk_alloc ?_ _)); exact BK392.out)) (below_size bl)); replace BK390 := Aside0.mk (kb BK390.out hb); replace BK391 := Aside0.mk (blk_below (g := gb391) (o := .cells #[.string (⟨#[65, 110, 110]⟩ : ByteArray), .string (⟨#[72, 79, 77, 69, 46, 111, 114, 103]⟩ : ByteArray)] 50 (0, 0)) (by (with_reducible repeat (first | refine blk_drewN ?_ _ | refine blk_drew ?_ | refine blk_alloc ?_ _)); refine blk_far ?_ NB391_392.out _; (with_reducible repeat (first | refine blk_drewN ?_ _ | refine blk_drew ?_ | refine blk_alloc ?_ _)); refine blk_far ?_ NB391_392.out _; (with_reducible repeat (first | refine blk_drewN ?_ _ | refine blk_drew ?_ | refine blk_alloc ?_ _)); refine blk_put (cs := #[.string (⟨#[65, 110, 110]⟩ : ByteArray), .string (⟨#[]⟩ : ByteArray)]) ?_ 1 _ rfl; (with_reducible repeat (first | refine blk_drewN ?_ _ | refine blk_drew ?_ | refine blk_alloc ?_ _)); refine blk_put (cs := #[.string (⟨#[]⟩ : ByteArray), .string (⟨#[]⟩ : ByteArray)]) ?_ 0 _ rfl; (with_reducible repeat (first | refine blk_drewN ?_ _ | refine blk_drew ?_ | refine blk_alloc ?_ _)); exact BK391.out) hb); replace BK392 := Aside0.mk (blk_below (g := gb392) (o := .cells #[.string (⟨#[98, 111, 98]⟩ : ByteArray), .string (⟨#[120]⟩ : ByteArray)] 50 (0, 0)) (by (with_reducible repeat (first | refine blk_drewN ?_ _ | refine blk_drew ?_ | refine blk_alloc ?_ _)); refine blk_put (cs := #[.string (⟨#[98, 111, 98]⟩ : ByteArray), .string (⟨#[]⟩ : ByteArray)]) ?_ 1 _ rfl; (with_reducible repeat (first | refine blk_drewN ?_ _ | refine blk_drew ?_ | refine blk_alloc ?_ _)); refine blk_put (cs := #[.string (⟨#[]⟩ : ByteArray), .string (⟨#[]⟩ : ByteArray)]) ?_ 0 _ rfl; (with_reducible repeat (first | refine blk_drewN ?_ _ | refine blk_drew ?_ | refine blk_alloc ?_ _)); refine blk_far ?_ NB392_391.out _; (with_reducible repeat (first | refine blk_drewN ?_ _ | refine blk_drew ?_ | refine blk_alloc ?_ _)); refine blk_far ?_ NB392_391.out _; (with_reducible repeat (first | refine blk_drewN ?_ _ | refine blk_drew ?_ | refine blk_alloc ?_ _)); exact BK392.out) hb); replace HB := Aside0.mk (below_step bl hb); clear hb ho22; obtain ⟨Ao23, co23, eo23⟩ := Kd.R_slice HO395.out; subst eo23) | (go_at_call 11; (with_reducible refine (guard_Check.calls k _ _ t384 t387 t388 _ _ y393 t396 t399 _ ?side1 ?side2 ?side3 ?side4 ?side5 A2.out).mono ?_); (case side1 => repeat (first | exact (Kd.R_reads' HO386.out).2.2 | (with_reducible refine Kd.C_alloc ?_ _) | (with_reducible refine Kd.C_drewN ?_ _) | (with_reducible refine Kd.C_drew ?_))); (case side2 => exact (Kd.R_reads' HO386.out).2.1); (case side3 => repeat (first | exact (Kd.R_reads' HO395.out).2.2 | (with_reducible refine Kd.C_alloc ?_ _) | (with_reducible refine Kd.C_drewN ?_ _) | (with_reducible refine Kd.C_drew ?_))); (case side4 => exact (Kd.R_reads' HO395.out).2.1); (case side5 => exact Glob.below HG.out bl); rintro e w24 ⟨v397, v400, rfl, ho0, ho1, hb⟩; replace HO386 := Aside0.mk (Kd.R_below (kr HO386.out) hb); have HO398 := Aside0.mk (Kd.R_lower (Kd.R_newB (Kd.R_newB (Kd.R_new' ho0 (Kd.R_lt (kr HO395.out))) (g := gb391) (o := .cells #[.string (⟨#[65, 110, 110]⟩ : ByteArray), .string (⟨#[72, 79, 77, 69, 46, 111, 114, 103]⟩ : ByteArray)] 50 (0, 0)) (bk BK391.out)) (g := gb392) (o := .cells #[.string (⟨#[98, 111, 98]⟩ : ByteArray), .string (⟨#[120]⟩ : ByteArray)] 50 (0, 0)) (bk BK392.out)) (below_size bl)); replace HO395 := Aside0.mk (Kd.R_elder' (kr HO395.out) (Kd.R_base ho0) hb); have HO401 := Aside0.mk (Kd.R_lower ho1 (below_size bl)); replace BK390 := Aside0.mk (kb BK390.out hb); replace BK391 := Aside0.mk (kb BK391.out hb); replace BK392 := Aside0.mk (kb BK392.out hb); replace HB := Aside0.mk (below_step bl hb); (try clear hb); (try clear hb2); (try clear hk); (try clear hi); (try clear ho0); (try clear ho1); obtain ⟨Ao25, co25, eo25⟩ := Kd.R_slice HO398.out; subst eo25; have p402 : 0 ≤ (0 : Int) := (by omega); have q402 : 0 < (t396.length : Int) := od; obtain ⟨ad402, e402, hx402_0, hx402_1⟩ := at_T50 (Kd.R_reads' HO398.out).2.2 0 p402 q402; cases e402; have qi402 : (0 < t396.length) = True := eq_true (by omega); (try rw [show ((0 : Int)).toNat = 0 from rfl] at hx402_0); (try rw [show 0 * 2 = 0 from rfl] at hx402_0); (try rw [Addr.add_zero'] at hx402_0); (try rw [show ((0 : Int)).toNat = 0 from rfl] at hx402_1); (try rw [show 0 * 2 = 0 from rfl] at hx402_1); (try rw [Addr.add_zero'] at hx402_1); replace p402 := eq_true p402; replace q402 := eq_true q402; have hcz26_0 := cz BK392.out 0 (.string (⟨#[98, 111, 98]⟩ : ByteArray)); have hcz26_1 := cz BK392.out 1 (.string (⟨#[120]⟩ : ByteArray)); have hfz26_0 := blk_frozen BK392.out 0; have hfz26_1 := blk_frozen BK392.out 1; obtain ⟨Ao27, co27, eo27⟩ := Kd.R_slice HO401.out; subst eo27; have p403 : 0 ≤ (0 : Int) := (by omega); have q403 : 0 < (t399.length : Int) := od; obtain ⟨ad403, e403, hx403_0, hx403_1, hx403_2, hx403_3⟩ := at_T52 (Kd.R_reads' HO401.out).2.2 0 p403 q403; cases e403; have qi403 : (0 < t399.length) = True := eq_true (by omega); (try rw [show ((0 : Int)).toNat = 0 from rfl] at hx403_0); (try rw [show 0 * 4 = 0 from rfl] at hx403_0); (try rw [Addr.add_zero'] at hx403_0); (try rw [show ((0 : Int)).toNat = 0 from rfl] at hx403_1); (try rw [show 0 * 4 = 0 from rfl] at hx403_1); (try rw [Addr.add_zero'] at hx403_1); (try rw [show ((0 : Int)).toNat = 0 from rfl] at hx403_2); (try rw [show 0 * 4 = 0 from rfl] at hx403_2); (try rw [Addr.add_zero'] at hx403_2); (try rw [show ((0 : Int)).toNat = 0 from rfl] at hx403_3); (try rw [show 0 * 4 = 0 from rfl] at hx403_3); (try rw [Addr.add_zero'] at hx403_3); replace p403 := eq_true p403; replace q403 := eq_true q403; have hcz28_0 := cz BK391.out 0 (.string (⟨#[65, 110, 110]⟩ : ByteArray)); have hcz28_1 := cz BK391.out 1 (.string (⟨#[72, 79, 77, 69, 46, 111, 114, 103]⟩ : ByteArray)); have hfz28_0 := blk_frozen BK391.out 0; have hfz28_1 := blk_frozen BK391.out 1)))
     go_ret
     exact ⟨rf, bl⟩
    ·rw [if_neg c7] at H
     have c7b0 : ((t399.length : Int) == 1) = false := beq_eq_false_iff_ne.mpr c7
     have c7b1 : ((t399.length : Int) != 1) = true := bne_iff_ne.mpr c7
     exact absurd ((Option.some.inj H).trans HT_r.out) (by decide)
   ·rw [if_neg c6] at H
    have c6b0 : ((((rd_T50 t396 0).f0).toList) == ([98, 111, 98] : List UInt8) && ((((rd_T50 t396 0).f1).toList) == ([120] : List UInt8))) = false := by simpa using c6
    (try (have c6b1 : decide ((((rd_T50 t396 0).f0).toList) = ([98, 111, 98] : List UInt8) && ((((rd_T50 t396 0).f1).toList) == ([120] : List UInt8))) = false := by simpa using c6))
    (try (have c6b2 : ((((rd_T50 t396 0).f0).toList) == ([98, 111, 98] : List UInt8) && ((((rd_T50 t396 0).f1).toList) == ([120] : List UInt8))) = false := by simpa using c6))
    (try (have c6b3 : ¬ ((((rd_T50 t396 0).f0).toList) = ([98, 111, 98] : List UInt8) && ((((rd_T50 t396 0).f1).toList) == ([120] : List UInt8))) := by simpa using c6))
    clear c6
    exact absurd ((Option.some.inj H).trans HT_r.out) (by decide)
  ·rw [if_neg c4] at H
   have c4b0 : ((t396.length : Int) == 1) = false := beq_eq_false_iff_ne.mpr c4
   have c4b1 : ((t396.length : Int) != 1) = true := bne_iff_ne.mpr c4
   exact absurd ((Option.some.inj H).trans HT_r.out) (by decide)
 ·rw [if_neg c3] at H
  have c3b0 : (t389 == 0) = false := beq_eq_false_iff_ne.mpr c3
  have c3b1 : (t389 != 0) = true := bne_iff_ne.mpr c3
  exact absurd ((Option.some.inj H).trans HT_r.out) (by decide)

end Go.Proofs.YtacjnapgdikhbaaGreatDoor.Q
end
section
namespace Go.Proofs.YtacjnapgdikhbaaGreatDoor.Q

attribute [local go_sem high] eqA48
/-! ### postriderlaw22_GuardChecks: function 3 -/
mutual
def postriderlaw22_GuardChecks.j0 : Nat → List (S52) → List (S48) → Bool → Option (Bool)
 | 0, _, _, _ => none
 | k + 1, x7, x9, x55 => if x55 = true then (some false) else (postriderlaw22_GuardChecks.l0 k x7 x9 0)
def postriderlaw22_GuardChecks.l0 : Nat → List (S52) → List (S48) → Int → Option (Bool)
 | 0, _, _, _ => none
 | k + 1, x7, x9, x10 => if x10 < (x7.length : Int) then (if 0 ≤ x10 then ((postriderlaw20_Failure.f ((rd_T52 x7 x10).f0.f0) ((rd_T52 x7 x10).f0.f1) ((rd_T52 x7 x10).f1) ((rd_T52 x7 x10).f2)).bind fun bt445 => (if x10 < (x9.length : Int) then (if ((!(bt445.1.toList == (((rd_T48 x9 x10).f0.f0).toList)) || (!(bt445.2.1.toList == (((rd_T48 x9 x10).f0.f1).toList)))) || (!(bt445.2.2.1 == ((rd_T48 x9 x10).f1)) || (!(bt445.2.2.2.toList == (((rd_T48 x9 x10).f2).toList))))) = true then (some false) else (postriderlaw22_GuardChecks.l0 k x7 x9 (wrap64 (x10 + 1)))) else (none))) else (none)) else ((postriderlaw22_tells.f k).bind fun t450 => (some t450))
end
def postriderlaw22_GuardChecks.f (k : Nat) (l0_0 : List (S72)) (a0_1 : ByteArray) (a0_2 : Bool) (l1 : List (S50)) : Option (Bool) := (postriderlaw18_Few.f k l0_0 a0_1 a0_2).bind fun bt405 => ((postriderlaw22_short.f k l1).bind fun t410 => ((postriderlaw18_Of.f k bt405.1 bt405.2.1 bt405.2.2).bind fun bt413 => ((guard_Check.f k bt405.1 bt405.2.1 bt405.2.2 t410).bind fun bt419 => ((postriderlaw22_of.f k t410).bind fun t425 => ((postriderref22_Check.f k bt413.1 bt413.2.1 bt413.2.2 t425).bind fun bt428 => ((postriderlaw22_same.f k bt419.1 bt428.1).bind fun t434 => (if t434 = true then (if (bt419.2.length : Int) = (bt428.2.length : Int) then ((guard_Hops.f bt405.1 bt405.2.1 bt405.2.2).bind fun t435 => ((postriderref22_Hops.f k bt413.1 bt413.2.1 bt413.2.2).bind fun t436 => (if t435 = t436 then ((guard_Marks.f k bt405.1 bt405.2.1 bt405.2.2).bind fun t437 => ((postriderref22_Marks.f k bt413.1 bt413.2.1 bt413.2.2).bind fun t440 => ((postriderlaw22_same.f k t437 t440).bind fun t443 => (postriderlaw22_GuardChecks.j0 k bt419.2 bt428.2 (!t443))))) else (postriderlaw22_GuardChecks.j0 k bt419.2 bt428.2 true)))) else (postriderlaw22_GuardChecks.j0 k bt419.2 bt428.2 true)) else (postriderlaw22_GuardChecks.j0 k bt419.2 bt428.2 true))))))))
theorem postriderlaw22_GuardChecks.mono_l : ∀ k, (∀ y0 y1 y2, LeO (postriderlaw22_GuardChecks.j0 k y0 y1 y2) (postriderlaw22_GuardChecks.j0 (k + 1) y0 y1 y2)) ∧ (∀ y0 y1 y2, LeO (postriderlaw22_GuardChecks.l0 k y0 y1 y2) (postriderlaw22_GuardChecks.l0 (k + 1) y0 y1 y2))
 | 0 => ⟨fun _ _ _ r h => by simp [postriderlaw22_GuardChecks.j0] at h, fun _ _ _ r h => by simp [postriderlaw22_GuardChecks.l0] at h⟩
 | k + 1 => by
  obtain ⟨ih0, ih1⟩ := postriderlaw22_GuardChecks.mono_l k
  refine ⟨?_, ?_⟩
  ·intro y0 y1 y2
   unfold postriderlaw22_GuardChecks.j0
   repeat' first
   | (with_reducible first | exact ih0 _ _ _ | exact ih1 _ _ _ | exact guard_Check.mono _ _ _ _ _ | exact guard_Marks.mono _ _ _ _ | exact postriderlaw18_Few.mono _ _ _ _ | exact postriderlaw18_Of.mono _ _ _ _ | exact postriderlaw22_of.mono _ _ | exact postriderlaw22_same.mono _ _ _ | exact postriderlaw22_short.mono _ _ | exact postriderlaw22_tells.mono _ | exact postriderref22_Check.mono _ _ _ _ _ | exact postriderref22_Hops.mono _ _ _ _ | exact postriderref22_Marks.mono _ _ _ _ | exact LeO.refl _ | exact LeO.none _ | refine LeO.ite ?_ ?_ | refine LeO.bind ?_ (fun _ => ?_))
  ·intro y0 y1 y2
   unfold postriderlaw22_GuardChecks.l0
   repeat' first
   | (with_reducible first | exact ih0 _ _ _ | exact ih1 _ _ _ | exact guard_Check.mono _ _ _ _ _ | exact guard_Marks.mono _ _ _ _ | exact postriderlaw18_Few.mono _ _ _ _ | exact postriderlaw18_Of.mono _ _ _ _ | exact postriderlaw22_of.mono _ _ | exact postriderlaw22_same.mono _ _ _ | exact postriderlaw22_short.mono _ _ | exact postriderlaw22_tells.mono _ | exact postriderref22_Check.mono _ _ _ _ _ | exact postriderref22_Hops.mono _ _ _ _ | exact postriderref22_Marks.mono _ _ _ _ | exact LeO.refl _ | exact LeO.none _ | refine LeO.ite ?_ ?_ | refine LeO.bind ?_ (fun _ => ?_))
theorem postriderlaw22_GuardChecks.mono : ∀ a0 a1 a2 a3 k, LeO (postriderlaw22_GuardChecks.f k a0 a1 a2 a3) (postriderlaw22_GuardChecks.f (k + 1) a0 a1 a2 a3) := by
 intro a0 a1 a2 a3 k
 obtain ⟨ih0, ih1⟩ := postriderlaw22_GuardChecks.mono_l k
 unfold postriderlaw22_GuardChecks.f
 repeat' first
   | (with_reducible first | exact ih0 _ _ _ | exact ih1 _ _ _ | exact guard_Check.mono _ _ _ _ _ | exact guard_Marks.mono _ _ _ _ | exact postriderlaw18_Few.mono _ _ _ _ | exact postriderlaw18_Of.mono _ _ _ _ | exact postriderlaw22_of.mono _ _ | exact postriderlaw22_same.mono _ _ _ | exact postriderlaw22_short.mono _ _ | exact postriderlaw22_tells.mono _ | exact postriderref22_Check.mono _ _ _ _ _ | exact postriderref22_Hops.mono _ _ _ _ | exact postriderref22_Marks.mono _ _ _ _ | exact LeO.refl _ | exact LeO.none _ | refine LeO.ite ?_ ?_ | refine LeO.bind ?_ (fun _ => ?_))
def postriderlaw22_GuardChecks.T4 : Bool × List (List Nat × List Nat) := (true, [([], []), ([], []), ([1], [1]), ([0, 2, 2], [0, 2]), ([3], [3]), ([4], [4]), ([4], [4]), ([5, 3, 0, 1, 2, 3, 4, 5], [5]), ([6, 7, 0, 1, 2, 3, 4, 5, 6, 7], [6])])
def postriderlaw22_GuardChecks.B4 : List Nat := [0, 0, 2, 7, 15, 31, 31, 63, 255]
theorem postriderlaw22_GuardChecks.tab4 : rtab .any (opsOf Tryz.f3 4) = postriderlaw22_GuardChecks.T4 := by kernel_rfl
theorem postriderlaw22_GuardChecks.bits4 : waitsOk postriderlaw22_GuardChecks.T4.2 postriderlaw22_GuardChecks.B4 = true := by kernel_rfl
def postriderlaw22_GuardChecks.T5 : Bool × List (List Nat × List Nat) := (true, [([], []), ([], []), ([0, 1], [0, 1]), ([2], [2]), ([3, 2], [3]), ([4], [4]), ([5, 4], [4, 5]), ([4], [4]), ([7, 4], [4, 7]), ([6, 8, 4], [4, 6, 8]), ([4, 9], [4, 9]), ([10, 4], [10]), ([11], [11]), ([12, 11, 11], [11, 12]), ([11], [11]), ([14, 13, 11], [11, 14]), ([13, 15, 11], [11, 13, 15]), ([11, 16], [11, 16]), ([17, 15], [17]), ([18], [18]), ([19, 18, 18], [18, 19]), ([18], [18]), ([21, 20, 18], [18, 21]), ([20, 22, 22, 18], [18, 20, 22]), ([23, 18], [18, 23]), ([18, 24], [18, 24])])
def postriderlaw22_GuardChecks.B5 : List Nat := [0, 0, 3, 7, 15, 31, 63, 31, 159, 511, 1023, 2047, 4095, 8191, 4095, 32767, 65535, 131071, 262143, 524287, 1048575, 524287, 4194303, 8388607, 16777215, 33554431]
theorem postriderlaw22_GuardChecks.tab5 : rtab .any (opsOf Tryz.f3 5) = postriderlaw22_GuardChecks.T5 := by kernel_rfl
theorem postriderlaw22_GuardChecks.bits5 : waitsOk postriderlaw22_GuardChecks.T5.2 postriderlaw22_GuardChecks.B5 = true := by kernel_rfl
def postriderlaw22_GuardChecks.T10 : Bool × List (List Nat × List Nat) := (true, [([], []), ([], []), ([0, 1], [0, 1]), ([2], [2]), ([3], [3]), ([], []), ([], []), ([5, 6], [5, 6]), ([7], [7]), ([4, 8], [4, 8])])
def postriderlaw22_GuardChecks.B10 : List Nat := [0, 0, 3, 7, 15, 0, 0, 96, 224, 511]
theorem postriderlaw22_GuardChecks.tab10 : rtab .any (opsOf Tryz.f3 10) = postriderlaw22_GuardChecks.T10 := by kernel_rfl
theorem postriderlaw22_GuardChecks.bits10 : waitsOk postriderlaw22_GuardChecks.T10.2 postriderlaw22_GuardChecks.B10 = true := by kernel_rfl
theorem postriderlaw22_GuardChecks.calls (k : Nat) (A0_0 : Option Addr) (c0_0 : Nat) (l0_0 : List (S72)) (a0_1 : ByteArray) (a0_2 : Bool) (A1 : Option Addr) (c1 : Nat) (l1 : List (S50)) (r : Bool) (w : World) (hr0_0 : Kd.C k72 w A0_0 l0_0.length l0_0) (hc0_0 : l0_0.length ≤ c0_0) (hr1 : Kd.C k50 w A1 l1.length l1) (hc1 : l1.length ≤ c1) (hG : Glob w) (hT : r = true) (h : postriderlaw22_GuardChecks.f k l0_0 a0_1 a0_2 l1 = some r) :
  Calls Tryz.prog 3 #[.agg #[.slice A0_0 l0_0.length c0_0, .string a0_1, .bool a0_2], .slice A1 l1.length c1] w fun e w' => e = .returned (.bool r) ∧ Below w.heap.size w w' := by
 have hu24 := Tryz.underlying24
 have hu30 := Tryz.underlying30
 have hu52 := Tryz.underlying52
 have hu48 := Tryz.underlying48
 have HR0_0 := Aside0.mk hr0_0
 have HC0_0 := Aside0.mk hc0_0
 clear hr0_0 hc0_0
 have HR1 := Aside0.mk hr1
 have HC1 := Aside0.mk hc1
 clear hr1 hc1
 have HB := Aside0.mk (Below.refl w.heap.size w)
 have HG := Aside0.mk hG
 clear hG
 have HT_r := Aside0.mk hT
 clear hT
 have H : ((postriderlaw18_Few.f k l0_0 a0_1 a0_2).bind fun bt405 => ((postriderlaw22_short.f k l1).bind fun t410 => ((postriderlaw18_Of.f k bt405.1 bt405.2.1 bt405.2.2).bind fun bt413 => ((guard_Check.f k bt405.1 bt405.2.1 bt405.2.2 t410).bind fun bt419 => ((postriderlaw22_of.f k t410).bind fun t425 => ((postriderref22_Check.f k bt413.1 bt413.2.1 bt413.2.2 t425).bind fun bt428 => ((postriderlaw22_same.f k bt419.1 bt428.1).bind fun t434 => (if t434 = true then (if (bt419.2.length : Int) = (bt428.2.length : Int) then ((guard_Hops.f bt405.1 bt405.2.1 bt405.2.2).bind fun t435 => ((postriderref22_Hops.f k bt413.1 bt413.2.1 bt413.2.2).bind fun t436 => (if t435 = t436 then ((guard_Marks.f k bt405.1 bt405.2.1 bt405.2.2).bind fun t437 => ((postriderref22_Marks.f k bt413.1 bt413.2.1 bt413.2.2).bind fun t440 => ((postriderlaw22_same.f k t437 t440).bind fun t443 => (postriderlaw22_GuardChecks.j0 k bt419.2 bt428.2 (!t443))))) else (postriderlaw22_GuardChecks.j0 k bt419.2 bt428.2 true)))) else (postriderlaw22_GuardChecks.j0 k bt419.2 bt428.2 true)) else (postriderlaw22_GuardChecks.j0 k bt419.2 bt428.2 true))))))))) = some r := h
 clear h
 obtain ⟨⟨t405, t408, t409⟩, A30, H⟩ := Option.bind_eq_some_iff.mp H
 replace H : ((postriderlaw22_short.f k l1).bind fun t410 => ((postriderlaw18_Of.f k t405 t408 t409).bind fun bt413 => ((guard_Check.f k t405 t408 t409 t410).bind fun bt419 => ((postriderlaw22_of.f k t410).bind fun t425 => ((postriderref22_Check.f k bt413.1 bt413.2.1 bt413.2.2 t425).bind fun bt428 => ((postriderlaw22_same.f k bt419.1 bt428.1).bind fun t434 => (if t434 = true then (if (bt419.2.length : Int) = (bt428.2.length : Int) then ((guard_Hops.f t405 t408 t409).bind fun t435 => ((postriderref22_Hops.f k bt413.1 bt413.2.1 bt413.2.2).bind fun t436 => (if t435 = t436 then ((guard_Marks.f k t405 t408 t409).bind fun t437 => ((postriderref22_Marks.f k bt413.1 bt413.2.1 bt413.2.2).bind fun t440 => ((postriderlaw22_same.f k t437 t440).bind fun t443 => (postriderlaw22_GuardChecks.j0 k bt419.2 bt428.2 (!t443))))) else (postriderlaw22_GuardChecks.j0 k bt419.2 bt428.2 true)))) else (postriderlaw22_GuardChecks.j0 k bt419.2 bt428.2 true)) else (postriderlaw22_GuardChecks.j0 k bt419.2 bt428.2 true)))))))) = some r := H
 have A3 := Aside0.mk A30
 clear A30
 obtain ⟨t410, A40, H⟩ := Option.bind_eq_some_iff.mp H
 replace H : ((postriderlaw18_Of.f k t405 t408 t409).bind fun bt413 => ((guard_Check.f k t405 t408 t409 t410).bind fun bt419 => ((postriderlaw22_of.f k t410).bind fun t425 => ((postriderref22_Check.f k bt413.1 bt413.2.1 bt413.2.2 t425).bind fun bt428 => ((postriderlaw22_same.f k bt419.1 bt428.1).bind fun t434 => (if t434 = true then (if (bt419.2.length : Int) = (bt428.2.length : Int) then ((guard_Hops.f t405 t408 t409).bind fun t435 => ((postriderref22_Hops.f k bt413.1 bt413.2.1 bt413.2.2).bind fun t436 => (if t435 = t436 then ((guard_Marks.f k t405 t408 t409).bind fun t437 => ((postriderref22_Marks.f k bt413.1 bt413.2.1 bt413.2.2).bind fun t440 => ((postriderlaw22_same.f k t437 t440).bind fun t443 => (postriderlaw22_GuardChecks.j0 k bt419.2 bt428.2 (!t443))))) else (postriderlaw22_GuardChecks.j0 k bt419.2 bt428.2 true)))) else (postriderlaw22_GuardChecks.j0 k bt419.2 bt428.2 true)) else (postriderlaw22_GuardChecks.j0 k bt419.2 bt428.2 true))))))) = some r := H
 have A4 := Aside0.mk A40
 clear A40
 obtain ⟨⟨t413, t416, t417⟩, A50, H⟩ := Option.bind_eq_some_iff.mp H
 replace H : ((guard_Check.f k t405 t408 t409 t410).bind fun bt419 => ((postriderlaw22_of.f k t410).bind fun t425 => ((postriderref22_Check.f k t413 t416 t417 t425).bind fun bt428 => ((postriderlaw22_same.f k bt419.1 bt428.1).bind fun t434 => (if t434 = true then (if (bt419.2.length : Int) = (bt428.2.length : Int) then ((guard_Hops.f t405 t408 t409).bind fun t435 => ((postriderref22_Hops.f k t413 t416 t417).bind fun t436 => (if t435 = t436 then ((guard_Marks.f k t405 t408 t409).bind fun t437 => ((postriderref22_Marks.f k t413 t416 t417).bind fun t440 => ((postriderlaw22_same.f k t437 t440).bind fun t443 => (postriderlaw22_GuardChecks.j0 k bt419.2 bt428.2 (!t443))))) else (postriderlaw22_GuardChecks.j0 k bt419.2 bt428.2 true)))) else (postriderlaw22_GuardChecks.j0 k bt419.2 bt428.2 true)) else (postriderlaw22_GuardChecks.j0 k bt419.2 bt428.2 true)))))) = some r := H
 have A5 := Aside0.mk A50
 clear A50
 obtain ⟨⟨t419, t422⟩, A60, H⟩ := Option.bind_eq_some_iff.mp H
 replace H : ((postriderlaw22_of.f k t410).bind fun t425 => ((postriderref22_Check.f k t413 t416 t417 t425).bind fun bt428 => ((postriderlaw22_same.f k t419 bt428.1).bind fun t434 => (if t434 = true then (if (t422.length : Int) = (bt428.2.length : Int) then ((guard_Hops.f t405 t408 t409).bind fun t435 => ((postriderref22_Hops.f k t413 t416 t417).bind fun t436 => (if t435 = t436 then ((guard_Marks.f k t405 t408 t409).bind fun t437 => ((postriderref22_Marks.f k t413 t416 t417).bind fun t440 => ((postriderlaw22_same.f k t437 t440).bind fun t443 => (postriderlaw22_GuardChecks.j0 k t422 bt428.2 (!t443))))) else (postriderlaw22_GuardChecks.j0 k t422 bt428.2 true)))) else (postriderlaw22_GuardChecks.j0 k t422 bt428.2 true)) else (postriderlaw22_GuardChecks.j0 k t422 bt428.2 true))))) = some r := H
 have A6 := Aside0.mk A60
 clear A60
 obtain ⟨t425, A70, H⟩ := Option.bind_eq_some_iff.mp H
 replace H : ((postriderref22_Check.f k t413 t416 t417 t425).bind fun bt428 => ((postriderlaw22_same.f k t419 bt428.1).bind fun t434 => (if t434 = true then (if (t422.length : Int) = (bt428.2.length : Int) then ((guard_Hops.f t405 t408 t409).bind fun t435 => ((postriderref22_Hops.f k t413 t416 t417).bind fun t436 => (if t435 = t436 then ((guard_Marks.f k t405 t408 t409).bind fun t437 => ((postriderref22_Marks.f k t413 t416 t417).bind fun t440 => ((postriderlaw22_same.f k t437 t440).bind fun t443 => (postriderlaw22_GuardChecks.j0 k t422 bt428.2 (!t443))))) else (postriderlaw22_GuardChecks.j0 k t422 bt428.2 true)))) else (postriderlaw22_GuardChecks.j0 k t422 bt428.2 true)) else (postriderlaw22_GuardChecks.j0 k t422 bt428.2 true)))) = some r := H
 have A7 := Aside0.mk A70
 clear A70
 obtain ⟨⟨t428, t431⟩, A80, H⟩ := Option.bind_eq_some_iff.mp H
 replace H : ((postriderlaw22_same.f k t419 t428).bind fun t434 => (if t434 = true then (if (t422.length : Int) = (t431.length : Int) then ((guard_Hops.f t405 t408 t409).bind fun t435 => ((postriderref22_Hops.f k t413 t416 t417).bind fun t436 => (if t435 = t436 then ((guard_Marks.f k t405 t408 t409).bind fun t437 => ((postriderref22_Marks.f k t413 t416 t417).bind fun t440 => ((postriderlaw22_same.f k t437 t440).bind fun t443 => (postriderlaw22_GuardChecks.j0 k t422 t431 (!t443))))) else (postriderlaw22_GuardChecks.j0 k t422 t431 true)))) else (postriderlaw22_GuardChecks.j0 k t422 t431 true)) else (postriderlaw22_GuardChecks.j0 k t422 t431 true))) = some r := H
 have A8 := Aside0.mk A80
 clear A80
 have HC9 := Aside0.mk H
 clear H
 go_enter Tryz.func3, Tryz.ntmps3
 try go_wp2_with (first | ((with_reducible refine gate_dst (N := 2) rfl ?_); (try (refine gate_guard (by rfl) ?_; dsimp only)); refine box_event ?hg (N := 2) ?hd (cs := #[.slice A0_0 l0_0.length c0_0, .string a0_1, .bool a0_2]) (t := 24) ?hr ?_; (case hd => rfl); (case hg => rfl); (case hr => first | (go_simp; done) | (go_simp; rfl)); intro gb404 hg w10 hbox hb; have BK404 := Aside0.mk (hbox); have GW404 := Aside0.mk (gz hg : w.heap.size ≤ gb404); have GE404 := Aside0.mk (gz hg : w.heap.size ≤ gb404); replace HB := Aside0.mk (below_step bl hb); clear hb hbox hg; have hcz11_0 := cz BK404.out 0 (.slice A0_0 l0_0.length c0_0); have hcz11_1 := cz BK404.out 1 (.string a0_1); have hcz11_2 := cz BK404.out 2 (.bool a0_2); have hfz11_0 := blk_frozen BK404.out 0; have hfz11_1 := blk_frozen BK404.out 1; have hfz11_2 := blk_frozen BK404.out 2) | ((with_reducible refine gate_callee (f := 8) rfl ?_); refine goesL_ (some 12) rfl rfl Tryz.func8 kf rfl #[.agg #[.slice A0_0 l0_0.length c0_0, .string a0_1, .bool a0_2]] rfl ml ?_; (with_reducible refine (postriderlaw18_Few.calls k _ _ l0_0 a0_1 a0_2 t405 t408 t409 _ ?side1 ?side2 A3.out).mono ?_); (case side1 => repeat (first | exact (Kd.C_below HR0_0.out HB.out) | (with_reducible refine Kd.C_alloc ?_ _) | (with_reducible refine Kd.C_drewN ?_ _) | (with_reducible refine Kd.C_drew ?_))); (case side2 => exact HC0_0.out); rintro e w12 ⟨v406, rfl, ho0, hb⟩; refine ⟨_, rfl, ?_⟩; have HO407 := Aside0.mk (Kd.R_lower ho0 (below_size bl)); replace BK404 := Aside0.mk (kb BK404.out hb); replace HB := Aside0.mk (below_step bl hb); (try clear hb); (try clear hb2); (try clear hk); (try clear hi); (try clear ho0)) | ((with_reducible refine gate_callee (f := 9) rfl ?_); refine goesL_ (some 14) rfl rfl Tryz.func9 kf rfl #[.slice A1 l1.length c1] rfl ml ?_; (with_reducible refine (postriderlaw22_short.calls k _ _ l1 t410 _ ?side1 ?side2 A4.out).mono ?_); (case side1 => repeat (first | exact (Kd.C_below HR1.out HB.out) | (with_reducible refine Kd.C_alloc ?_ _) | (with_reducible refine Kd.C_drewN ?_ _) | (with_reducible refine Kd.C_drew ?_))); (case side2 => exact HC1.out); rintro e w13 ⟨v411, rfl, ho0, hb⟩; refine ⟨_, rfl, ?_⟩; replace HO407 := Aside0.mk (Kd.R_below (kr HO407.out) hb); have HO412 := Aside0.mk (Kd.R_lower ho0 (below_size bl)); replace BK404 := Aside0.mk (kb BK404.out hb); replace HB := Aside0.mk (below_step bl hb); (try clear hb); (try clear hb2); (try clear hk); (try clear hi); (try clear ho0); obtain ⟨Ao14, co14, eo14⟩ := Kd.R_slice HO407.out; subst eo14; have hcz15_0 := cz BK404.out 0 (.slice A0_0 l0_0.length c0_0); have hcz15_1 := cz BK404.out 1 (.string a0_1); have hcz15_2 := cz BK404.out 2 (.bool a0_2); have hfz15_0 := blk_frozen BK404.out 0; have hfz15_1 := blk_frozen BK404.out 1; have hfz15_2 := blk_frozen BK404.out 2) | ((with_reducible refine gate_callee (f := 10) rfl ?_); refine goesL_ (some 16) rfl rfl Tryz.func10 kf rfl #[.agg #[.slice Ao14 t405.length co14, .string t408, .bool t409]] rfl ml ?_; (with_reducible refine (postriderlaw18_Of.calls k _ _ t405 t408 t409 t413 t416 t417 _ ?side1 ?side2 A5.out).mono ?_); (case side1 => refine (Kd.R_reads' (e := 72) (base := w.heap.size) (ok := fun k_ => True) (n := t405.length) (c := co14) ?_).2.2; exact (by (with_reducible repeat (first | apply Kd.R_alloc | apply Kd.R_drewN | apply Kd.R_drew)); exact (Kd.R_mono (Kd.R_far (p := ⟨gb404, 2, none⟩) (Kd.R_far (p := ⟨gb404, 1, none⟩) (Kd.R_far (p := ⟨gb404, 0, none⟩) (Kd.R_types HO407.out BK404.out (by decide)) (fun _ hk => hk.2) (.slice Ao14 t405.length co14)) (fun _ hk => hk.2) (.string t408)) (fun _ hk => hk.2) (.bool t409)) (fun _ h_ => h_.1)))); (case side2 => exact (Kd.R_reads' HO407.out).2.1); rintro e w16 ⟨v414, rfl, ho0, hb⟩; refine ⟨_, rfl, ?_⟩; replace HO407 := Aside0.mk (Kd.R_below (by (with_reducible repeat (first | apply Kd.R_alloc | apply Kd.R_drewN | apply Kd.R_drew)); exact (Kd.R_mono (Kd.R_far (p := ⟨gb404, 2, none⟩) (Kd.R_far (p := ⟨gb404, 1, none⟩) (Kd.R_far (p := ⟨gb404, 0, none⟩) (Kd.R_types HO407.out BK404.out (by decide)) (fun _ hk => hk.2) (.slice Ao14 t405.length co14)) (fun _ hk => hk.2) (.string t408)) (fun _ hk => hk.2) (.bool t409)) (fun _ h_ => h_.1))) hb); replace HO412 := Aside0.mk (Kd.R_below (by (with_reducible repeat (first | apply Kd.R_alloc | apply Kd.R_drewN | apply Kd.R_drew)); exact (Kd.R_mono (Kd.R_far (p := ⟨gb404, 2, none⟩) (Kd.R_far (p := ⟨gb404, 1, none⟩) (Kd.R_far (p := ⟨gb404, 0, none⟩) (Kd.R_types HO412.out BK404.out (by decide)) (fun _ hk => hk.2) (.slice Ao14 t405.length co14)) (fun _ hk => hk.2) (.string t408)) (fun _ hk => hk.2) (.bool t409)) (fun _ h_ => h_.1))) hb); have HO415 := Aside0.mk (Kd.R_lower ho0 (below_size bl)); replace BK404 := Aside0.mk (blk_below (g := gb404) (o := .cells #[.slice Ao14 t405.length co14, .string t408, .bool t409] 24 (0, 0)) (by (with_reducible repeat (first | refine blk_drewN ?_ _ | refine blk_drew ?_ | refine blk_alloc ?_ _)); refine blk_put (cs := #[.slice Ao14 t405.length co14, .string t408, .bool a0_2]) ?_ 2 _ rfl; (with_reducible repeat (first | refine blk_drewN ?_ _ | refine blk_drew ?_ | refine blk_alloc ?_ _)); refine blk_put (cs := #[.slice Ao14 t405.length co14, .string a0_1, .bool a0_2]) ?_ 1 _ rfl; (with_reducible repeat (first | refine blk_drewN ?_ _ | refine blk_drew ?_ | refine blk_alloc ?_ _)); refine blk_put (cs := #[.slice A0_0 l0_0.length c0_0, .string a0_1, .bool a0_2]) ?_ 0 _ rfl; (with_reducible repeat (first | refine blk_drewN ?_ _ | refine blk_drew ?_ | refine blk_alloc ?_ _)); exact BK404.out) hb); replace HB := Aside0.mk (below_step bl hb); (try clear hb); (try clear hb2); (try clear hk); (try clear hi); (try clear ho0)) | ((with_reducible refine gate_dst (N := 5) rfl ?_); (try (refine gate_guard (by rfl) ?_; dsimp only)); refine box_event ?hg (N := 5) ?hd (cs := #[.slice none 0 0, .string (⟨#[]⟩ : ByteArray), .bool false]) (t := 30) ?hr ?_; (case hd => rfl); (case hg => rfl); (case hr => first | (go_simp; done) | (go_simp; rfl)); intro gb418 hg w17 hbox hb; replace HO407 := Aside0.mk (Kd.R_below (kr HO407.out) hb); replace HO412 := Aside0.mk (Kd.R_below (kr HO412.out) hb); replace HO415 := Aside0.mk (Kd.R_below (kr HO415.out) hb); have BK418 := Aside0.mk (hbox); have GW418 := Aside0.mk (gz hg : w.heap.size ≤ gb418); have GE418 := Aside0.mk (gz hg : w.heap.size ≤ gb418); replace HB := Aside0.mk (below_step bl hb); have NB404_418 := Aside0.mk (nl hg BK404.out : gb404 ≠ gb418); have NB418_404 := Aside0.mk (ng hg BK404.out : gb418 ≠ gb404); replace BK404 := Aside0.mk (kb BK404.out hb); clear hb hbox hg; obtain ⟨Ao18, co18, eo18⟩ := Kd.R_slice HO415.out; subst eo18; have hnb19 := NB418_404.out; have hnc19 := NB404_418.out; have hcz20_0 := cz BK418.out 0 (.slice none 0 0); have hcz20_1 := cz BK418.out 1 (.string (⟨#[]⟩ : ByteArray)); have hcz20_2 := cz BK418.out 2 (.bool false); have hfz20_0 := blk_frozen BK418.out 0; have hfz20_1 := blk_frozen BK418.out 1; have hfz20_2 := blk_frozen BK418.out 2; have hcz21_0 := cz BK404.out 0 (.slice Ao14 t405.length co14); have hcz21_1 := cz BK404.out 1 (.string t408); have hcz21_2 := cz BK404.out 2 (.bool t409); have hfz21_0 := blk_frozen BK404.out 0; have hfz21_1 := blk_frozen BK404.out 1; have hfz21_2 := blk_frozen BK404.out 2; obtain ⟨Ao22, co22, eo22⟩ := Kd.R_slice HO412.out; subst eo22) | ((with_reducible refine gate_callee (f := 11) rfl ?_); refine goesL_ (some 20) rfl rfl Tryz.func11 kf rfl #[.agg #[.slice Ao14 t405.length co14, .string t408, .bool t409], .slice Ao22 t410.length co22] rfl ml ?_; (with_reducible refine (guard_Check.calls k _ _ t405 t408 t409 _ _ t410 t419 t422 _ ?side1 ?side2 ?side3 ?side4 ?side5 A6.out).mono ?_); (case side1 => refine (Kd.R_reads' (e := 72) (base := w.heap.size) (ok := fun k_ => True) (n := t405.length) (c := co14) ?_).2.2; exact (by (with_reducible repeat (first | apply Kd.R_alloc | apply Kd.R_drewN | apply Kd.R_drew)); exact (Kd.R_mono (Kd.R_far (p := ⟨gb418, 2, none⟩) (Kd.R_far (p := ⟨gb418, 1, none⟩) (Kd.R_far (p := ⟨gb418, 0, none⟩) (Kd.R_types HO407.out BK418.out (by decide)) (fun _ hk => hk.2) (.slice Ao18 t413.length co18)) (fun _ hk => hk.2) (.string t416)) (fun _ hk => hk.2) (.bool t417)) (fun _ h_ => h_.1)))); (case side2 => exact (Kd.R_reads' HO407.out).2.1); (case side3 => refine (Kd.R_reads' (e := 50) (base := w.heap.size) (ok := fun k_ => True) (n := t410.length) (c := co22) ?_).2.2; exact (by (with_reducible repeat (first | apply Kd.R_alloc | apply Kd.R_drewN | apply Kd.R_drew)); exact (Kd.R_mono (Kd.R_far (p := ⟨gb418, 2, none⟩) (Kd.R_far (p := ⟨gb418, 1, none⟩) (Kd.R_far (p := ⟨gb418, 0, none⟩) (Kd.R_types HO412.out BK418.out (by decide)) (fun _ hk => hk.2) (.slice Ao18 t413.length co18)) (fun _ hk => hk.2) (.string t416)) (fun _ hk => hk.2) (.bool t417)) (fun _ h_ => h_.1)))); (case side4 => exact (Kd.R_reads' HO412.out).2.1); (case side5 => exact Glob.below HG.out bl); rintro e w23 ⟨v420, v423, rfl, ho0, ho1, hb⟩; refine ⟨_, rfl, ?_⟩; replace HO407 := Aside0.mk (Kd.R_below (by (with_reducible repeat (first | apply Kd.R_alloc | apply Kd.R_drewN | apply Kd.R_drew)); exact (Kd.R_mono (Kd.R_far (p := ⟨gb418, 2, none⟩) (Kd.R_far (p := ⟨gb418, 1, none⟩) (Kd.R_far (p := ⟨gb418, 0, none⟩) (Kd.R_types HO407.out BK418.out (by decide)) (fun _ hk => hk.2) (.slice Ao18 t413.length co18)) (fun _ hk => hk.2) (.string t416)) (fun _ hk => hk.2) (.bool t417)) (fun _ h_ => h_.1))) hb); replace HO415 := Aside0.mk (Kd.R_below (by (with_reducible repeat (first | apply Kd.R_alloc | apply Kd.R_drewN | apply Kd.R_drew)); exact (Kd.R_mono (Kd.R_far (p := ⟨gb418, 2, none⟩) (Kd.R_far (p := ⟨gb418, 1, none⟩) (Kd.R_far (p := ⟨gb418, 0, none⟩) (Kd.R_types HO415.out BK418.out (by decide)) (fun _ hk => hk.2) (.slice Ao18 t413.length co18)) (fun _ hk => hk.2) (.string t416)) (fun _ hk => hk.2) (.bool t417)) (fun _ h_ => h_.1))) hb); have HO421 := Aside0.mk (Kd.R_lower (Kd.R_new' ho0 (Kd.R_lt (by (with_reducible repeat (first | apply Kd.R_alloc | apply Kd.R_drewN | apply Kd.R_drew)); exact (Kd.R_mono (Kd.R_far (p := ⟨gb418, 2, none⟩) (Kd.R_far (p := ⟨gb418, 1, none⟩) (Kd.R_far (p := ⟨gb418, 0, none⟩) (Kd.R_types HO412.out BK418.out (by decide)) (fun _ hk => hk.2) (.slice Ao18 t413.length co18)) (fun _ hk => hk.2) (.string t416)) (fun _ hk => hk.2) (.bool t417)) (fun _ h_ => h_.1))))) (below_size bl)); replace HO412 := Aside0.mk (Kd.R_elder' (by (with_reducible repeat (first | apply Kd.R_alloc | apply Kd.R_drewN | apply Kd.R_drew)); exact (Kd.R_mono (Kd.R_far (p := ⟨gb418, 2, none⟩) (Kd.R_far (p := ⟨gb418, 1, none⟩) (Kd.R_far (p := ⟨gb418, 0, none⟩) (Kd.R_types HO412.out BK418.out (by decide)) (fun _ hk => hk.2) (.slice Ao18 t413.length co18)) (fun _ hk => hk.2) (.string t416)) (fun _ hk => hk.2) (.bool t417)) (fun _ h_ => h_.1))) (Kd.R_base ho0) hb); have HO424 := Aside0.mk (Kd.R_lower ho1 (below_size bl)); replace BK404 := Aside0.mk (kb BK404.out hb); replace BK418 := Aside0.mk (blk_below (g := gb418) (o := .cells #[.slice Ao18 t413.length co18, .string t416, .bool t417] 30 (0, 0)) (by (with_reducible repeat (first | refine blk_drewN ?_ _ | refine blk_drew ?_ | refine blk_alloc ?_ _)); refine blk_put (cs := #[.slice Ao18 t413.length co18, .string t416, .bool false]) ?_ 2 _ rfl; (with_reducible repeat (first | refine blk_drewN ?_ _ | refine blk_drew ?_ | refine blk_alloc ?_ _)); refine blk_put (cs := #[.slice Ao18 t413.length co18, .string (⟨#[]⟩ : ByteArray), .bool false]) ?_ 1 _ rfl; (with_reducible repeat (first | refine blk_drewN ?_ _ | refine blk_drew ?_ | refine blk_alloc ?_ _)); refine blk_put (cs := #[.slice none 0 0, .string (⟨#[]⟩ : ByteArray), .bool false]) ?_ 0 _ rfl; (with_reducible repeat (first | refine blk_drewN ?_ _ | refine blk_drew ?_ | refine blk_alloc ?_ _)); exact BK418.out) hb); replace HB := Aside0.mk (below_step bl hb); (try clear hb); (try clear hb2); (try clear hk); (try clear hi); (try clear ho0); (try clear ho1)))
 replace HO407 := Aside0.mk (Kd.R_drew HO407.out)
 replace HO412 := Aside0.mk (Kd.R_drew HO412.out)
 replace HO415 := Aside0.mk (Kd.R_drew HO415.out)
 replace HO421 := Aside0.mk (Kd.R_drew HO421.out)
 replace HO424 := Aside0.mk (Kd.R_drew HO424.out)
 replace BK404 := Aside0.mk (blk_drew BK404.out)
 replace BK418 := Aside0.mk (blk_drew BK418.out)
 replace HB := Aside0.mk (below_drew1 HB.out)
 refine start_ (n := 9) (S := fun w' => w'.cell? ⟨gb418, 0, none⟩ = some (.slice Ao18 t413.length co18) ∧ w'.cell? ⟨gb418, 1, none⟩ = some (.string t416) ∧ w'.cell? ⟨gb418, 2, none⟩ = some (.bool t417)) (ds := []) #[false, false, false, false, false, false, false, false, false] kf rfl rfl ⟨(blk_cell BK418.out 0).trans rfl, (blk_cell BK418.out 1).trans rfl, (blk_cell BK418.out 2).trans rfl⟩ (fun hHeld => ?_); refine with_tabW postriderlaw22_GuardChecks.tab4 postriderlaw22_GuardChecks.bits4 (fun HT_ HW_ => ?_)
 generalize w23.drew = w24 at HO407 HO412 HO415 HO421 HO424 BK404 BK418 HB hHeld ⊢
 refine pure_ (i := 1) (N := some 25) (v := ?_) (a' := ?_) #[false, true, false, false, false, false, false, false, false] rfl rfl (any_of HT_.out kf) (fun _ _ _ h => h) (Or.inl ⟨by rfl, ?_⟩) ?_ ?_
 rotate_left
 ·intro w'
  go_simp
  with_reducible rfl
 rotate_left
 ·simp only [Act.put, sA, sB, sC, i64_w, i32_w]
  rfl
 refine take_ (i := 0) (N := some 24) (v := ?_) (a' := ?_) #[true, true, false, false, false, false, false, false, false] rfl rfl (take_ofW HT_.out HW_.out kf) (fun _ _ _ h => h) (Or.inl ⟨by rfl, ?_⟩) hHeld ?_ ?_
 rotate_left
 ·rintro w' ⟨s0, s1, s2⟩
  go_simp
  with_reducible rfl
 rotate_left
 ·simp only [Act.put, sA, sB, sC, i64_w, i32_w]
  rfl
 refine one_ (i := 2) (N := some 26) #[true, true, true, false, false, false, false, false, false] rfl rfl (one_of HT_.out kf) (by decide) (fun K hK => ?_)
 refine goes_ Tryz.func13 kf rfl #[.slice Ao22 t410.length co22] (by rfl) rfl rfl ml ?_
 with_reducible refine (postriderlaw22_of.calls k _ _ t410 t425 _ ?side1 ?side2 A7.out).mono ?_
 (case side1 => repeat (first | exact (Kd.R_reads' HO412.out).2.2 | (with_reducible refine Kd.C_alloc ?_ _) | (with_reducible refine Kd.C_drewN ?_ _) | (with_reducible refine Kd.C_drew ?_)))
 (case side2 => exact (Kd.R_reads' HO412.out).2.1)
 rintro e w25 ⟨v426, rfl, ho0, hb⟩
 refine ⟨_, rfl, ?_⟩
 replace HO407 := Aside0.mk (Kd.R_below (kr HO407.out) hb)
 replace HO412 := Aside0.mk (Kd.R_below (kr HO412.out) hb)
 replace HO415 := Aside0.mk (Kd.R_below (kr HO415.out) hb)
 replace HO421 := Aside0.mk (Kd.R_below (kr HO421.out) hb)
 replace HO424 := Aside0.mk (Kd.R_below (kr HO424.out) hb)
 have HO427 := Aside0.mk (Kd.R_lower ho0 (below_size bl))
 replace BK404 := Aside0.mk (kb BK404.out hb)
 replace BK418 := Aside0.mk (kb BK418.out hb)
 replace HB := Aside0.mk (below_step bl hb)
 (try clear hb)
 (try clear hb2)
 (try clear hk)
 (try clear hi)
 (try clear ho0)
 obtain ⟨Ao26, co26, eo26⟩ := Kd.R_slice HO427.out
 (first | subst eo26 | (injection eo26 with f1_ f2_ f3_; have f4_ := f1_.symm; have f5_ := f3_.symm; clear f1_ f2_ f3_; subst f4_; subst f5_))
 refine hK.out _ _ ⟨(blk_cell BK418.out 0).trans rfl, (blk_cell BK418.out 1).trans rfl, (blk_cell BK418.out 2).trans rfl⟩ (fun hHeld => ?_)
 clear hK K
 refine norm_ (a' := ?_) ?_ ?_
 rotate_left
 ·show Act.put _ (some 26) _ = _
  simp only [Act.put, sA, sB, sC, i64_w, i32_w]
  rfl
 refine one_ (i := 3) (N := some 27) #[true, true, true, true, false, false, false, false, false] rfl rfl (one_of HT_.out kf) (by decide) (fun K hK => ?_)
 refine goes_ Tryz.func12 kf rfl #[.agg #[.slice Ao18 t413.length co18, .string t416, .bool t417], .slice Ao26 t425.length co26] (by rfl) rfl rfl ml ?_
 with_reducible refine (postriderref22_Check.calls k _ _ t413 t416 t417 _ _ t425 t428 t431 _ ?side1 ?side2 ?side3 ?side4 A8.out).mono ?_
 (case side1 => repeat (first | exact (Kd.R_reads' HO415.out).2.2 | (with_reducible refine Kd.C_alloc ?_ _) | (with_reducible refine Kd.C_drewN ?_ _) | (with_reducible refine Kd.C_drew ?_)))
 (case side2 => exact (Kd.R_reads' HO415.out).2.1)
 (case side3 => repeat (first | exact (Kd.R_reads' HO427.out).2.2 | (with_reducible refine Kd.C_alloc ?_ _) | (with_reducible refine Kd.C_drewN ?_ _) | (with_reducible refine Kd.C_drew ?_)))
 (case side4 => exact (Kd.R_reads' HO427.out).2.1)
 rintro e w27 ⟨v429, v432, rfl, ho0, ho1, hb⟩
 refine ⟨_, rfl, ?_⟩
 replace HO407 := Aside0.mk (Kd.R_below (kr HO407.out) hb)
 replace HO412 := Aside0.mk (Kd.R_below (kr HO412.out) hb)
 replace HO415 := Aside0.mk (Kd.R_below (kr HO415.out) hb)
 replace HO421 := Aside0.mk (Kd.R_below (kr HO421.out) hb)
 replace HO424 := Aside0.mk (Kd.R_below (kr HO424.out) hb)
 have HO430 := Aside0.mk (Kd.R_lower (Kd.R_new' ho0 (Kd.R_lt (kr HO427.out))) (below_size bl))
 replace HO427 := Aside0.mk (Kd.R_elder' (kr HO427.out) (Kd.R_base ho0) hb)
 have HO433 := Aside0.mk (Kd.R_lower ho1 (below_size bl))
 replace BK404 := Aside0.mk (kb BK404.out hb)
 replace BK418 := Aside0.mk (kb BK418.out hb)
 replace HB := Aside0.mk (below_step bl hb)
 (try clear hb)
 (try clear hb2)
 (try clear hk)
 (try clear hi)
 (try clear ho0)
 (try clear ho1)
 refine hK.out _ _ ⟨(blk_cell BK418.out 0).trans rfl, (blk_cell BK418.out 1).trans rfl, (blk_cell BK418.out 2).trans rfl⟩ (fun hHeld => ?_)
 clear hK K
 refine norm_ (a' := ?_) ?_ ?_
 rotate_left
 ·show Act.put _ (some 27) _ = _
  simp only [Act.put, sA, sB, sC, i64_w, i32_w]
  rfl
 refine pure_ (i := 4) (N := some 23) (v := ?_) (a' := ?_) #[true, true, true, true, true, false, false, false, false] rfl rfl (any_of HT_.out kf) (fun _ _ _ h => h) (Or.inl ⟨by rfl, ?_⟩) ?_ ?_
 rotate_left
 ·intro w'
  go_simp
  with_reducible rfl
 rotate_left
 ·simp only [Act.put, sA, sB, sC, i64_w, i32_w]
  rfl
 refine pure_ (i := 5) (N := some 28) (v := ?_) (a' := ?_) #[true, true, true, true, true, true, false, false, false] rfl rfl (any_of HT_.out kf) (fun _ _ _ h => h) (Or.inl ⟨by rfl, ?_⟩) ?_ ?_
 rotate_left
 ·intro w'
  go_simp
  with_reducible rfl
 rotate_left
 ·simp only [Act.put, sA, sB, sC, i64_w, i32_w]
  rfl
 refine pure_ (i := 6) (N := some 29) (v := ?_) (a' := ?_) #[true, true, true, true, true, true, true, false, false] rfl rfl (any_of HT_.out kf) (fun _ _ _ h => h) (Or.inl ⟨by rfl, ?_⟩) ?_ ?_
 rotate_left
 ·intro w'
  go_simp
  with_reducible rfl
 rotate_left
 ·simp only [Act.put, sA, sB, sC, i64_w, i32_w]
  rfl
 refine pure_ (i := 7) (N := some 8) (v := ?_) (a' := ?_) #[true, true, true, true, true, true, true, true, false] rfl rfl (any_of HT_.out kf) (fun _ _ _ h => h) (Or.inl ⟨by rfl, ?_⟩) ?_ ?_
 rotate_left
 ·intro w'
  go_simp
  with_reducible rfl
 rotate_left
 ·simp only [Act.put, sA, sB, sC, i64_w, i32_w]
  rfl
 refine pure_ (i := 8) (N := some 9) (v := ?_) (a' := ?_) #[true, true, true, true, true, true, true, true, true] rfl rfl (any_of HT_.out kf) (fun _ _ _ h => h) (Or.inl ⟨by rfl, ?_⟩) ?_ ?_
 rotate_left
 ·intro w'
  go_simp
  with_reducible rfl
 rotate_left
 ·simp only [Act.put, sA, sB, sC, i64_w, i32_w]
  rfl
 refine done_ (done_of HT_.out kf) ?_
 go_upto_region 5 with (fail)
 go_cut [55] (fun v55 wc => ∃ (kq : Nat) (x55_8 : Bool), v55 = .bool x55_8 ∧ Aside0 (postriderlaw22_GuardChecks.j0 kq t422 t431 x55_8 = some r) ∧ Aside0 (kq ≤ k) ∧ Aside0 (Kd.R k52 52 wc w.heap.size (fun _ => True) v423 t422) ∧ Aside0 (Kd.R k48 48 wc w.heap.size (fun _ => True) v432 t431) ∧ Aside0 (Kd.R k72 72 wc w.heap.size (fun _ => True) (.slice Ao14 t405.length co14) t405) ∧ Aside0 (Kd.R k79 79 wc w.heap.size (fun _ => True) (.slice Ao18 t413.length co18) t413) ∧ Aside0 (wc.heap[gb404]? = some (.cells #[(.slice Ao14 t405.length co14), .string t408, .bool t409] 24 (0, 0))) ∧ Aside0 (wc.heap[gb418]? = some (.cells #[(.slice Ao18 t413.length co18), .string t416, .bool t417] 30 (0, 0))) ∧ Aside0 (Below w.heap.size w wc))
 case first =>
  have H := HC9.out
  clear HC9
  obtain ⟨t434, A280, H⟩ := Option.bind_eq_some_iff.mp H
  replace H : (if t434 = true then (if (t422.length : Int) = (t431.length : Int) then ((guard_Hops.f t405 t408 t409).bind fun t435 => ((postriderref22_Hops.f k t413 t416 t417).bind fun t436 => (if t435 = t436 then ((guard_Marks.f k t405 t408 t409).bind fun t437 => ((postriderref22_Marks.f k t413 t416 t417).bind fun t440 => ((postriderlaw22_same.f k t437 t440).bind fun t443 => (postriderlaw22_GuardChecks.j0 k t422 t431 (!t443))))) else (postriderlaw22_GuardChecks.j0 k t422 t431 true)))) else (postriderlaw22_GuardChecks.j0 k t422 t431 true)) else (postriderlaw22_GuardChecks.j0 k t422 t431 true)) = some r := H
  have A28 := Aside0.mk A280
  clear A280
  by_cases c29 : t434 = true
  ·subst c29
   replace H : (if (t422.length : Int) = (t431.length : Int) then ((guard_Hops.f t405 t408 t409).bind fun t435 => ((postriderref22_Hops.f k t413 t416 t417).bind fun t436 => (if t435 = t436 then ((guard_Marks.f k t405 t408 t409).bind fun t437 => ((postriderref22_Marks.f k t413 t416 t417).bind fun t440 => ((postriderlaw22_same.f k t437 t440).bind fun t443 => (postriderlaw22_GuardChecks.j0 k t422 t431 (!t443))))) else (postriderlaw22_GuardChecks.j0 k t422 t431 true)))) else (postriderlaw22_GuardChecks.j0 k t422 t431 true)) = some r := by rw [if_pos rfl] at H; exact H
   by_cases c30 : (t422.length : Int) = (t431.length : Int)
   ·rw [if_pos c30] at H
    have c30b0 : ((t422.length : Int) == (t431.length : Int)) = true := beq_iff_eq.mpr c30
    have c30b1 : ((t422.length : Int) != (t431.length : Int)) = false := bne_eq_false_iff_eq.mpr c30
    have c30b2 : (t422.length == t431.length) = true := by first | simpa using c30 | (simp at c30 ⊢; omega)
    clear c30
    (first | rw [c30b0] | (simp only [i64_w, i32_w]; rw [c30b0]) | skip)
    obtain ⟨t435, A310, H⟩ := Option.bind_eq_some_iff.mp H
    replace H : ((postriderref22_Hops.f k t413 t416 t417).bind fun t436 => (if t435 = t436 then ((guard_Marks.f k t405 t408 t409).bind fun t437 => ((postriderref22_Marks.f k t413 t416 t417).bind fun t440 => ((postriderlaw22_same.f k t437 t440).bind fun t443 => (postriderlaw22_GuardChecks.j0 k t422 t431 (!t443))))) else (postriderlaw22_GuardChecks.j0 k t422 t431 true))) = some r := H
    have A31 := Aside0.mk A310
    clear A310
    obtain ⟨t436, A320, H⟩ := Option.bind_eq_some_iff.mp H
    replace H : (if t435 = t436 then ((guard_Marks.f k t405 t408 t409).bind fun t437 => ((postriderref22_Marks.f k t413 t416 t417).bind fun t440 => ((postriderlaw22_same.f k t437 t440).bind fun t443 => (postriderlaw22_GuardChecks.j0 k t422 t431 (!t443))))) else (postriderlaw22_GuardChecks.j0 k t422 t431 true)) = some r := H
    have A32 := Aside0.mk A320
    clear A320
    by_cases c33 : t435 = t436
    ·rw [if_pos c33] at H
     have c33b0 : (t435 == t436) = true := beq_iff_eq.mpr c33
     have c33b1 : (t435 != t436) = false := bne_eq_false_iff_eq.mpr c33
     clear c33
     obtain ⟨t437, A340, H⟩ := Option.bind_eq_some_iff.mp H
     replace H : ((postriderref22_Marks.f k t413 t416 t417).bind fun t440 => ((postriderlaw22_same.f k t437 t440).bind fun t443 => (postriderlaw22_GuardChecks.j0 k t422 t431 (!t443)))) = some r := H
     have A34 := Aside0.mk A340
     clear A340
     obtain ⟨t440, A350, H⟩ := Option.bind_eq_some_iff.mp H
     replace H : ((postriderlaw22_same.f k t437 t440).bind fun t443 => (postriderlaw22_GuardChecks.j0 k t422 t431 (!t443))) = some r := H
     have A35 := Aside0.mk A350
     clear A350
     obtain ⟨t443, A360, H⟩ := Option.bind_eq_some_iff.mp H
     replace H : (postriderlaw22_GuardChecks.j0 k t422 t431 (!t443)) = some r := H
     have A36 := Aside0.mk A360
     clear A360
     have H' := Aside0.mk H
     clear H
     try go_wp2
     replace HO407 := Aside0.mk (Kd.R_drew HO407.out)
     replace HO412 := Aside0.mk (Kd.R_drew HO412.out)
     replace HO415 := Aside0.mk (Kd.R_drew HO415.out)
     replace HO421 := Aside0.mk (Kd.R_drew HO421.out)
     replace HO424 := Aside0.mk (Kd.R_drew HO424.out)
     replace HO427 := Aside0.mk (Kd.R_drew HO427.out)
     replace HO430 := Aside0.mk (Kd.R_drew HO430.out)
     replace HO433 := Aside0.mk (Kd.R_drew HO433.out)
     replace BK404 := Aside0.mk (blk_drew BK404.out)
     replace BK418 := Aside0.mk (blk_drew BK418.out)
     replace HB := Aside0.mk (below_drew1 HB.out)
     obtain ⟨Ao38, co38, eo38⟩ := Kd.R_slice HO421.out
     (first | subst eo38 | (injection eo38 with f1_ f2_ f3_; have f4_ := f1_.symm; have f5_ := f3_.symm; clear f1_ f2_ f3_; subst f4_; subst f5_))
     obtain ⟨Ao39, co39, eo39⟩ := Kd.R_slice HO430.out
     (first | subst eo39 | (injection eo39 with f1_ f2_ f3_; have f4_ := f1_.symm; have f5_ := f3_.symm; clear f1_ f2_ f3_; subst f4_; subst f5_))
     refine start_ (n := 26) (S := fun w' => w'.cell? ⟨gb404, 0, none⟩ = some (.slice Ao14 t405.length co14) ∧ w'.cell? ⟨gb404, 1, none⟩ = some (.string t408) ∧ w'.cell? ⟨gb404, 2, none⟩ = some (.bool t409) ∧ w'.cell? ⟨gb418, 0, none⟩ = some (.slice Ao18 t413.length co18) ∧ w'.cell? ⟨gb418, 1, none⟩ = some (.string t416) ∧ w'.cell? ⟨gb418, 2, none⟩ = some (.bool t417)) (ds := []) #[false, false, false, false, false, false, false, false, false, false, false, false, false, false, false, false, false, false, false, false, false, false, false, false, false, false] kf rfl rfl ⟨(blk_cell BK404.out 0).trans rfl, (blk_cell BK404.out 1).trans rfl, (blk_cell BK404.out 2).trans rfl, (blk_cell BK418.out 0).trans rfl, (blk_cell BK418.out 1).trans rfl, (blk_cell BK418.out 2).trans rfl⟩ (fun hHeld => ?_); refine with_tabW postriderlaw22_GuardChecks.tab5 postriderlaw22_GuardChecks.bits5 (fun HT_ HW_ => ?_)
     generalize w27.drew = w37 at HO407 HO412 HO415 HO421 HO424 HO427 HO430 HO433 BK404 BK418 HB hHeld ⊢
     refine pure_ (i := 0) (N := some 30) (v := ?_) (a' := ?_) #[true, false, false, false, false, false, false, false, false, false, false, false, false, false, false, false, false, false, false, false, false, false, false, false, false, false] rfl rfl (any_of HT_.out kf) (fun _ _ _ h => h) (Or.inl ⟨by rfl, ?_⟩) ?_ ?_
     rotate_left
     ·intro w'
      go_simp
      with_reducible rfl
     rotate_left
     ·simp only [Act.put, sA, sB, sC, i64_w, i32_w]
      rfl
     refine pure_ (i := 1) (N := some 31) (v := ?_) (a' := ?_) #[true, true, false, false, false, false, false, false, false, false, false, false, false, false, false, false, false, false, false, false, false, false, false, false, false, false] rfl rfl (any_of HT_.out kf) (fun _ _ _ h => h) (Or.inl ⟨by rfl, ?_⟩) ?_ ?_
     rotate_left
     ·intro w'
      go_simp
      with_reducible rfl
     rotate_left
     ·simp only [Act.put, sA, sB, sC, i64_w, i32_w]
      rfl
     refine one_ (i := 2) (N := some 32) #[true, true, true, false, false, false, false, false, false, false, false, false, false, false, false, false, false, false, false, false, false, false, false, false, false, false] rfl rfl (one_of HT_.out kf) (by decide) (fun K hK => ?_)
     refine goes_ Tryz.func14 kf rfl #[.slice Ao38 t419.length co38, .slice Ao39 t428.length co39] (by rfl) rfl rfl ml ?_
     with_reducible refine (postriderlaw22_same.calls k _ _ t419 _ _ t428 true _ ?side1 ?side2 ?side3 ?side4 A28.out).mono ?_
     (case side1 => repeat (first | exact (Kd.R_reads' HO421.out).2.2 | (with_reducible refine Kd.C_alloc ?_ _) | (with_reducible refine Kd.C_drewN ?_ _) | (with_reducible refine Kd.C_drew ?_)))
     (case side2 => exact (Kd.R_reads' HO421.out).2.1)
     (case side3 => repeat (first | exact (Kd.R_reads' HO430.out).2.2 | (with_reducible refine Kd.C_alloc ?_ _) | (with_reducible refine Kd.C_drewN ?_ _) | (with_reducible refine Kd.C_drew ?_)))
     (case side4 => exact (Kd.R_reads' HO430.out).2.1)
     rintro e w' ⟨rfl, ⟨nd, rfl⟩⟩
     refine ⟨_, rfl, ?_⟩
     obtain ⟨Ao40, co40, eo40⟩ := Kd.R_slice HO424.out
     (first | subst eo40 | (injection eo40 with f1_ f2_ f3_; have f4_ := f1_.symm; have f5_ := f3_.symm; clear f1_ f2_ f3_; subst f4_; subst f5_))
     obtain ⟨Ao41, co41, eo41⟩ := Kd.R_slice HO433.out
     (first | subst eo41 | (injection eo41 with f1_ f2_ f3_; have f4_ := f1_.symm; have f5_ := f3_.symm; clear f1_ f2_ f3_; subst f4_; subst f5_))
     refine hK.out _ _ ⟨(blk_cell BK404.out 0).trans rfl, (blk_cell BK404.out 1).trans rfl, (blk_cell BK404.out 2).trans rfl, (blk_cell BK418.out 0).trans rfl, (blk_cell BK418.out 1).trans rfl, (blk_cell BK418.out 2).trans rfl⟩ (fun hHeld => ?_)
     clear hK K
     refine norm_ (a' := ?_) ?_ ?_
     rotate_left
     ·show Act.put _ (some 32) _ = _
      simp only [Act.put, sA, sB, sC, i64_w, i32_w]
      rfl
     refine pure_ (i := 3) (N := some 33) (v := ?_) (a' := ?_) #[true, true, true, true, false, false, false, false, false, false, false, false, false, false, false, false, false, false, false, false, false, false, false, false, false, false] rfl rfl (any_of HT_.out kf) (fun _ _ _ h => h) (Or.inl ⟨by rfl, ?_⟩) ?_ ?_
     rotate_left
     ·intro w'
      go_simp
      with_reducible rfl
     rotate_left
     ·simp only [Act.put, sA, sB, sC, i64_w, i32_w]
      rfl
     refine pure_ (i := 4) (N := some 34) (v := ?_) (a' := ?_) #[true, true, true, true, true, false, false, false, false, false, false, false, false, false, false, false, false, false, false, false, false, false, false, false, false, false] rfl rfl (any_of HT_.out kf) (fun _ _ _ h => h) (Or.inl ⟨by rfl, ?_⟩) ?_ ?_
     rotate_left
     ·intro w'
      go_simp
      with_reducible rfl
     rotate_left
     ·simp only [Act.put, sA, sB, sC, i64_w, i32_w]
      rfl
     refine pure_ (i := 5) (N := some 35) (v := ?_) (a' := ?_) #[true, true, true, true, true, true, false, false, false, false, false, false, false, false, false, false, false, false, false, false, false, false, false, false, false, false] rfl rfl (any_of HT_.out kf) (fun _ _ _ h => h) (Or.inl ⟨by rfl, ?_⟩) ?_ ?_
     rotate_left
     ·intro w'
      go_simp
      with_reducible rfl
     rotate_left
     ·simp only [Act.put, sA, sB, sC, i64_w, i32_w]
      rfl
     refine pure_ (i := 6) (N := some 36) (v := ?_) (a' := ?_) #[true, true, true, true, true, true, true, false, false, false, false, false, false, false, false, false, false, false, false, false, false, false, false, false, false, false] rfl rfl (any_of HT_.out kf) (fun _ _ _ h => h) (Or.inl ⟨by rfl, ?_⟩) ?_ ?_
     rotate_left
     ·intro w'
      go_simp
      with_reducible rfl
     rotate_left
     ·simp only [Act.put, sA, sB, sC, i64_w, i32_w]
      rfl
     refine pure_ (i := 7) (N := some 37) (v := ?_) (a' := ?_) #[true, true, true, true, true, true, true, true, false, false, false, false, false, false, false, false, false, false, false, false, false, false, false, false, false, false] rfl rfl (any_of HT_.out kf) (fun _ _ _ h => h) (Or.inl ⟨by rfl, ?_⟩) ?_ ?_
     rotate_left
     ·intro w'
      go_simp
      with_reducible rfl
     rotate_left
     ·simp only [Act.put, sA, sB, sC, i64_w, i32_w]
      rfl
     refine pure_ (i := 8) (N := some 38) (v := ?_) (a' := ?_) #[true, true, true, true, true, true, true, true, true, false, false, false, false, false, false, false, false, false, false, false, false, false, false, false, false, false] rfl rfl (any_of HT_.out kf) (fun _ _ _ h => h) (Or.inl ⟨by rfl, ?_⟩) ?_ ?_
     rotate_left
     ·intro w'
      go_simp
      with_reducible rfl
     rotate_left
     ·simp only [Act.put, sA, sB, sC, i64_w, i32_w]
      rfl
     refine pure_ (i := 9) (N := some 39) (v := ?_) (a' := ?_) #[true, true, true, true, true, true, true, true, true, true, false, false, false, false, false, false, false, false, false, false, false, false, false, false, false, false] rfl rfl (any_of HT_.out kf) (fun _ _ _ h => h) (Or.inl ⟨by rfl, ?_⟩) ?_ ?_
     rotate_left
     ·intro w'
      go_simp
      with_reducible rfl
     rotate_left
     ·simp only [Act.put, sA, sB, sC, i64_w, i32_w]
      rfl
     refine pure_ (i := 10) (N := some 40) (v := ?_) (a' := ?_) #[true, true, true, true, true, true, true, true, true, true, true, false, false, false, false, false, false, false, false, false, false, false, false, false, false, false] rfl rfl (any_of HT_.out kf) (fun _ _ _ h => h) (Or.inl ⟨by rfl, ?_⟩) ?_ ?_
     rotate_left
     ·intro w'
      go_simp
      with_reducible rfl
     rotate_left
     ·simp only [Act.put, sA, sB, sC, i64_w, i32_w]
      rfl
     refine pure_ (i := 11) (N := some 41) (v := ?_) (a' := ?_) #[true, true, true, true, true, true, true, true, true, true, true, true, false, false, false, false, false, false, false, false, false, false, false, false, false, false] rfl rfl (any_of HT_.out kf) (fun _ _ _ h => h) (Or.inl ⟨by rfl, ?_⟩) ?_ ?_
     rotate_left
     ·intro w'
      go_simp
      with_reducible rfl
     rotate_left
     ·simp only [Act.put, sA, sB, sC, i64_w, i32_w]
      rfl
     refine take_ (i := 12) (N := some 42) (v := ?_) (a' := ?_) #[true, true, true, true, true, true, true, true, true, true, true, true, true, false, false, false, false, false, false, false, false, false, false, false, false, false] rfl rfl (take_ofW HT_.out HW_.out kf) (fun _ _ _ h => h) (Or.inl ⟨by rfl, ?_⟩) hHeld ?_ ?_
     rotate_left
     ·rintro w' ⟨s0, s1, s2, s3, s4, s5⟩
      go_simp
      with_reducible rfl
     rotate_left
     ·simp only [Act.put, sA, sB, sC, i64_w, i32_w]
      rfl
     refine take_ (i := 14) (N := some 44) (v := ?_) (a' := ?_) #[true, true, true, true, true, true, true, true, true, true, true, true, true, false, true, false, false, false, false, false, false, false, false, false, false, false] rfl rfl (take_ofW HT_.out HW_.out kf) (fun _ _ _ h => h) (Or.inl ⟨by rfl, ?_⟩) hHeld ?_ ?_
     rotate_left
     ·rintro w' ⟨s0, s1, s2, s3, s4, s5⟩
      go_simp
      with_reducible rfl
     rotate_left
     ·simp only [Act.put, sA, sB, sC, i64_w, i32_w]
      rfl
     refine one_ (i := 13) (N := some 43) #[true, true, true, true, true, true, true, true, true, true, true, true, true, true, true, false, false, false, false, false, false, false, false, false, false, false] rfl rfl (one_of HT_.out kf) (by decide) (fun K hK => ?_)
     refine goes_ Tryz.func15 kf rfl #[.agg #[.slice Ao14 t405.length co14, .string t408, .bool t409]] (by rfl) rfl rfl ml ?_
     with_reducible refine (guard_Hops.calls _ _ t405 t408 t409 t435 _ ?side1 ?side2 A31.out).mono ?_
     (case side1 => repeat (first | exact (Kd.R_reads' HO407.out).2.2 | (with_reducible refine Kd.C_alloc ?_ _) | (with_reducible refine Kd.C_drewN ?_ _) | (with_reducible refine Kd.C_drew ?_)))
     (case side2 => exact (Kd.R_reads' HO407.out).2.1)
     rintro e w42 ⟨rfl, hb⟩
     refine ⟨_, rfl, ?_⟩
     replace HO407 := Aside0.mk (Kd.R_below (kr HO407.out) hb)
     replace HO412 := Aside0.mk (Kd.R_below (kr HO412.out) hb)
     replace HO415 := Aside0.mk (Kd.R_below (kr HO415.out) hb)
     replace HO421 := Aside0.mk (Kd.R_below (kr HO421.out) hb)
     replace HO424 := Aside0.mk (Kd.R_below (kr HO424.out) hb)
     replace HO427 := Aside0.mk (Kd.R_below (kr HO427.out) hb)
     replace HO430 := Aside0.mk (Kd.R_below (kr HO430.out) hb)
     replace HO433 := Aside0.mk (Kd.R_below (kr HO433.out) hb)
     replace BK404 := Aside0.mk (kb BK404.out hb)
     replace BK418 := Aside0.mk (kb BK418.out hb)
     replace HB := Aside0.mk (below_step bl hb)
     (try clear hb)
     (try clear hb2)
     (try clear hk)
     (try clear hi)
     refine hK.out _ _ ⟨(blk_cell BK404.out 0).trans rfl, (blk_cell BK404.out 1).trans rfl, (blk_cell BK404.out 2).trans rfl, (blk_cell BK418.out 0).trans rfl, (blk_cell BK418.out 1).trans rfl, (blk_cell BK418.out 2).trans rfl⟩ (fun hHeld => ?_)
     clear hK K
     refine norm_ (a' := ?_) ?_ ?_
     rotate_left
     ·show Act.put _ (some 43) _ = _
      simp only [Act.put, sA, sB, sC, i64_w, i32_w]
      rfl
     refine one_ (i := 15) (N := some 45) #[true, true, true, true, true, true, true, true, true, true, true, true, true, true, true, true, false, false, false, false, false, false, false, false, false, false] rfl rfl (one_of HT_.out kf) (by decide) (fun K hK => ?_)
     refine goes_ Tryz.func16 kf rfl #[.agg #[.slice Ao18 t413.length co18, .string t416, .bool t417]] (by rfl) rfl rfl ml ?_
     with_reducible refine (postriderref22_Hops.calls k _ _ t413 t416 t417 t436 _ ?side1 ?side2 A32.out).mono ?_
     (case side1 => repeat (first | exact (Kd.R_reads' HO415.out).2.2 | (with_reducible refine Kd.C_alloc ?_ _) | (with_reducible refine Kd.C_drewN ?_ _) | (with_reducible refine Kd.C_drew ?_)))
     (case side2 => exact (Kd.R_reads' HO415.out).2.1)
     rintro e w43 ⟨rfl, hb⟩
     refine ⟨_, rfl, ?_⟩
     replace HO407 := Aside0.mk (Kd.R_below (kr HO407.out) hb)
     replace HO412 := Aside0.mk (Kd.R_below (kr HO412.out) hb)
     replace HO415 := Aside0.mk (Kd.R_below (kr HO415.out) hb)
     replace HO421 := Aside0.mk (Kd.R_below (kr HO421.out) hb)
     replace HO424 := Aside0.mk (Kd.R_below (kr HO424.out) hb)
     replace HO427 := Aside0.mk (Kd.R_below (kr HO427.out) hb)
     replace HO430 := Aside0.mk (Kd.R_below (kr HO430.out) hb)
     replace HO433 := Aside0.mk (Kd.R_below (kr HO433.out) hb)
     replace BK404 := Aside0.mk (kb BK404.out hb)
     replace BK418 := Aside0.mk (kb BK418.out hb)
     replace HB := Aside0.mk (below_step bl hb)
     (try clear hb)
     (try clear hb2)
     (try clear hk)
     (try clear hi)
     refine hK.out _ _ ⟨(blk_cell BK404.out 0).trans rfl, (blk_cell BK404.out 1).trans rfl, (blk_cell BK404.out 2).trans rfl, (blk_cell BK418.out 0).trans rfl, (blk_cell BK418.out 1).trans rfl, (blk_cell BK418.out 2).trans rfl⟩ (fun hHeld => ?_)
     clear hK K
     refine norm_ (a' := ?_) ?_ ?_
     rotate_left
     ·show Act.put _ (some 45) _ = _
      simp only [Act.put, sA, sB, sC, i64_w, i32_w]
      rfl
     refine pure_ (i := 16) (N := some 46) (v := ?_) (a' := ?_) #[true, true, true, true, true, true, true, true, true, true, true, true, true, true, true, true, true, false, false, false, false, false, false, false, false, false] rfl rfl (any_of HT_.out kf) (fun _ _ _ h => h) (Or.inl ⟨by rfl, ?_⟩) ?_ ?_
     rotate_left
     ·intro w'
      go_simp
      with_reducible rfl
     rotate_left
     ·simp only [Act.put, sA, sB, sC, i64_w, i32_w]
      rfl
     refine pure_ (i := 17) (N := some 47) (v := ?_) (a' := ?_) #[true, true, true, true, true, true, true, true, true, true, true, true, true, true, true, true, true, true, false, false, false, false, false, false, false, false] rfl rfl (any_of HT_.out kf) (fun _ _ _ h => h) (Or.inl ⟨by rfl, ?_⟩) ?_ ?_
     rotate_left
     ·intro w'
      go_simp
      with_reducible rfl
     rotate_left
     ·simp only [Act.put, sA, sB, sC, i64_w, i32_w]
      rfl
     refine pure_ (i := 18) (N := some 48) (v := ?_) (a' := ?_) #[true, true, true, true, true, true, true, true, true, true, true, true, true, true, true, true, true, true, true, false, false, false, false, false, false, false] rfl rfl (any_of HT_.out kf) (fun _ _ _ h => h) (Or.inl ⟨by rfl, ?_⟩) ?_ ?_
     rotate_left
     ·intro w'
      go_simp
      with_reducible rfl
     rotate_left
     ·simp only [Act.put, sA, sB, sC, i64_w, i32_w]
      rfl
     refine take_ (i := 19) (N := some 49) (v := ?_) (a' := ?_) #[true, true, true, true, true, true, true, true, true, true, true, true, true, true, true, true, true, true, true, true, false, false, false, false, false, false] rfl rfl (take_ofW HT_.out HW_.out kf) (fun _ _ _ h => h) (Or.inl ⟨by rfl, ?_⟩) hHeld ?_ ?_
     rotate_left
     ·rintro w' ⟨s0, s1, s2, s3, s4, s5⟩
      go_simp
      with_reducible rfl
     rotate_left
     ·simp only [Act.put, sA, sB, sC, i64_w, i32_w]
      rfl
     refine take_ (i := 21) (N := some 51) (v := ?_) (a' := ?_) #[true, true, true, true, true, true, true, true, true, true, true, true, true, true, true, true, true, true, true, true, false, true, false, false, false, false] rfl rfl (take_ofW HT_.out HW_.out kf) (fun _ _ _ h => h) (Or.inl ⟨by rfl, ?_⟩) hHeld ?_ ?_
     rotate_left
     ·rintro w' ⟨s0, s1, s2, s3, s4, s5⟩
      go_simp
      with_reducible rfl
     rotate_left
     ·simp only [Act.put, sA, sB, sC, i64_w, i32_w]
      rfl
     refine one_ (i := 20) (N := some 50) #[true, true, true, true, true, true, true, true, true, true, true, true, true, true, true, true, true, true, true, true, true, true, false, false, false, false] rfl rfl (one_of HT_.out kf) (by decide) (fun K hK => ?_)
     refine goes_ Tryz.func17 kf rfl #[.agg #[.slice Ao14 t405.length co14, .string t408, .bool t409]] (by rfl) rfl rfl ml ?_
     with_reducible refine (guard_Marks.calls k _ _ t405 t408 t409 t437 _ ?side1 ?side2 ?side3 A34.out).mono ?_
     (case side1 => repeat (first | exact (Kd.R_reads' HO407.out).2.2 | (with_reducible refine Kd.C_alloc ?_ _) | (with_reducible refine Kd.C_drewN ?_ _) | (with_reducible refine Kd.C_drew ?_)))
     (case side2 => exact (Kd.R_reads' HO407.out).2.1)
     (case side3 => exact Glob.below HG.out bl)
     rintro e w44 ⟨v438, rfl, ho0, hb⟩
     refine ⟨_, rfl, ?_⟩
     replace HO407 := Aside0.mk (Kd.R_below (kr HO407.out) hb)
     replace HO415 := Aside0.mk (Kd.R_below (kr HO415.out) hb)
     replace HO424 := Aside0.mk (Kd.R_below (kr HO424.out) hb)
     replace HO427 := Aside0.mk (Kd.R_below (kr HO427.out) hb)
     replace HO430 := Aside0.mk (Kd.R_below (kr HO430.out) hb)
     replace HO433 := Aside0.mk (Kd.R_below (kr HO433.out) hb)
     have HO439 := Aside0.mk (Kd.R_lower (Kd.R_new' (Kd.R_new' ho0 (Kd.R_lt (kr HO412.out))) (Kd.R_lt (kr HO421.out))) (below_size bl))
     replace HO412 := Aside0.mk (Kd.R_elder' (kr HO412.out) (Kd.R_base ho0) hb)
     replace HO421 := Aside0.mk (Kd.R_elder' (kr HO421.out) (Kd.R_base ho0) hb)
     replace BK404 := Aside0.mk (kb BK404.out hb)
     replace BK418 := Aside0.mk (kb BK418.out hb)
     replace HB := Aside0.mk (below_step bl hb)
     (try clear hb)
     (try clear hb2)
     (try clear hk)
     (try clear hi)
     (try clear ho0)
     refine hK.out _ _ ⟨(blk_cell BK404.out 0).trans rfl, (blk_cell BK404.out 1).trans rfl, (blk_cell BK404.out 2).trans rfl, (blk_cell BK418.out 0).trans rfl, (blk_cell BK418.out 1).trans rfl, (blk_cell BK418.out 2).trans rfl⟩ (fun hHeld => ?_)
     clear hK K
     refine norm_ (a' := ?_) ?_ ?_
     rotate_left
     ·show Act.put _ (some 50) _ = _
      simp only [Act.put, sA, sB, sC, i64_w, i32_w]
      rfl
     refine one_ (i := 22) (N := some 52) #[true, true, true, true, true, true, true, true, true, true, true, true, true, true, true, true, true, true, true, true, true, true, true, false, false, false] rfl rfl (one_of HT_.out kf) (by decide) (fun K hK => ?_)
     refine goes_ Tryz.func18 kf rfl #[.agg #[.slice Ao18 t413.length co18, .string t416, .bool t417]] (by rfl) rfl rfl ml ?_
     with_reducible refine (postriderref22_Marks.calls k _ _ t413 t416 t417 t440 _ ?side1 ?side2 A35.out).mono ?_
     (case side1 => repeat (first | exact (Kd.R_reads' HO415.out).2.2 | (with_reducible refine Kd.C_alloc ?_ _) | (with_reducible refine Kd.C_drewN ?_ _) | (with_reducible refine Kd.C_drew ?_)))
     (case side2 => exact (Kd.R_reads' HO415.out).2.1)
     rintro e w45 ⟨v441, rfl, ho0, hb⟩
     refine ⟨_, rfl, ?_⟩
     replace HO407 := Aside0.mk (Kd.R_below (kr HO407.out) hb)
     replace HO412 := Aside0.mk (Kd.R_below (kr HO412.out) hb)
     replace HO415 := Aside0.mk (Kd.R_below (kr HO415.out) hb)
     replace HO421 := Aside0.mk (Kd.R_below (kr HO421.out) hb)
     replace HO424 := Aside0.mk (Kd.R_below (kr HO424.out) hb)
     replace HO433 := Aside0.mk (Kd.R_below (kr HO433.out) hb)
     replace HO439 := Aside0.mk (Kd.R_below (kr HO439.out) hb)
     have HO442 := Aside0.mk (Kd.R_lower (Kd.R_new' (Kd.R_new' ho0 (Kd.R_lt (kr HO427.out))) (Kd.R_lt (kr HO430.out))) (below_size bl))
     replace HO427 := Aside0.mk (Kd.R_elder' (kr HO427.out) (Kd.R_base ho0) hb)
     replace HO430 := Aside0.mk (Kd.R_elder' (kr HO430.out) (Kd.R_base ho0) hb)
     replace BK404 := Aside0.mk (kb BK404.out hb)
     replace BK418 := Aside0.mk (kb BK418.out hb)
     replace HB := Aside0.mk (below_step bl hb)
     (try clear hb)
     (try clear hb2)
     (try clear hk)
     (try clear hi)
     (try clear ho0)
     obtain ⟨Ao46, co46, eo46⟩ := Kd.R_slice HO439.out
     (first | subst eo46 | (injection eo46 with f1_ f2_ f3_; have f4_ := f1_.symm; have f5_ := f3_.symm; clear f1_ f2_ f3_; subst f4_; subst f5_))
     obtain ⟨Ao47, co47, eo47⟩ := Kd.R_slice HO442.out
     (first | subst eo47 | (injection eo47 with f1_ f2_ f3_; have f4_ := f1_.symm; have f5_ := f3_.symm; clear f1_ f2_ f3_; subst f4_; subst f5_))
     refine hK.out _ _ ⟨(blk_cell BK404.out 0).trans rfl, (blk_cell BK404.out 1).trans rfl, (blk_cell BK404.out 2).trans rfl, (blk_cell BK418.out 0).trans rfl, (blk_cell BK418.out 1).trans rfl, (blk_cell BK418.out 2).trans rfl⟩ (fun hHeld => ?_)
     clear hK K
     refine norm_ (a' := ?_) ?_ ?_
     rotate_left
     ·show Act.put _ (some 52) _ = _
      simp only [Act.put, sA, sB, sC, i64_w, i32_w]
      rfl
     refine one_ (i := 23) (N := some 53) #[true, true, true, true, true, true, true, true, true, true, true, true, true, true, true, true, true, true, true, true, true, true, true, true, false, false] rfl rfl (one_of HT_.out kf) (by decide) (fun K hK => ?_)
     refine goes_ Tryz.func14 kf rfl #[.slice Ao46 t437.length co46, .slice Ao47 t440.length co47] (by rfl) rfl rfl ml ?_
     with_reducible refine (postriderlaw22_same.calls k _ _ t437 _ _ t440 t443 _ ?side1 ?side2 ?side3 ?side4 A36.out).mono ?_
     (case side1 => repeat (first | exact (Kd.R_reads' HO439.out).2.2 | (with_reducible refine Kd.C_alloc ?_ _) | (with_reducible refine Kd.C_drewN ?_ _) | (with_reducible refine Kd.C_drew ?_)))
     (case side2 => exact (Kd.R_reads' HO439.out).2.1)
     (case side3 => repeat (first | exact (Kd.R_reads' HO442.out).2.2 | (with_reducible refine Kd.C_alloc ?_ _) | (with_reducible refine Kd.C_drewN ?_ _) | (with_reducible refine Kd.C_drew ?_)))
     (case side4 => exact (Kd.R_reads' HO442.out).2.1)
     rintro e w' ⟨rfl, ⟨nd, rfl⟩⟩
     refine ⟨_, rfl, ?_⟩
     refine hK.out _ _ ⟨(blk_cell BK404.out 0).trans rfl, (blk_cell BK404.out 1).trans rfl, (blk_cell BK404.out 2).trans rfl, (blk_cell BK418.out 0).trans rfl, (blk_cell BK418.out 1).trans rfl, (blk_cell BK418.out 2).trans rfl⟩ (fun hHeld => ?_)
     clear hK K
     refine norm_ (a' := ?_) ?_ ?_
     rotate_left
     ·show Act.put _ (some 53) _ = _
      simp only [Act.put, sA, sB, sC, i64_w, i32_w]
      rfl
     refine pure_ (i := 24) (N := some 54) (v := ?_) (a' := ?_) #[true, true, true, true, true, true, true, true, true, true, true, true, true, true, true, true, true, true, true, true, true, true, true, true, true, false] rfl rfl (any_of HT_.out kf) (fun _ _ _ h => h) (Or.inl ⟨by rfl, ?_⟩) ?_ ?_
     rotate_left
     ·intro w'
      go_simp
      with_reducible rfl
     rotate_left
     ·simp only [Act.put, sA, sB, sC, i64_w, i32_w]
      rfl
     refine pure_ (i := 25) (N := some 55) (v := ?_) (a' := ?_) #[true, true, true, true, true, true, true, true, true, true, true, true, true, true, true, true, true, true, true, true, true, true, true, true, true, true] rfl rfl (any_of HT_.out kf) (fun _ _ _ h => h) (Or.inl ⟨by rfl, ?_⟩) ?_ ?_
     rotate_left
     ·intro w'
      go_simp
      with_reducible rfl
     rotate_left
     ·simp only [Act.put, sA, sB, sC, i64_w, i32_w]
      rfl
     refine done_ (done_of HT_.out kf) ?_
     try go_wp2
     go_meet
     case rel => exact ⟨_, (!t443), rs, H', ⟨by first | omega | exact Nat.le_refl _⟩, ⟨kr HO424.out⟩, ⟨kr HO433.out⟩, ⟨kr HO407.out⟩, ⟨kr HO415.out⟩, ⟨bk BK404.out⟩, ⟨bk BK418.out⟩, ⟨bl⟩⟩
    ·rw [if_neg c33] at H
     have c33b0 : (t435 == t436) = false := beq_eq_false_iff_ne.mpr c33
     have c33b1 : (t435 != t436) = true := bne_iff_ne.mpr c33
     exact absurd (H.trans (congrArg some HT_r.out)) (by cases k <;> simp [postriderlaw22_GuardChecks.j0])
   ·rw [if_neg c30] at H
    have c30b0 : ((t422.length : Int) == (t431.length : Int)) = false := beq_eq_false_iff_ne.mpr c30
    have c30b1 : ((t422.length : Int) != (t431.length : Int)) = true := bne_iff_ne.mpr c30
    have c30b2 : (t422.length == t431.length) = false := by first | simpa using c30 | (simp at c30 ⊢; omega)
    (first | rw [c30b0] | (simp only [i64_w, i32_w]; rw [c30b0]) | skip)
    exact absurd (H.trans (congrArg some HT_r.out)) (by cases k <;> simp [postriderlaw22_GuardChecks.j0])
  ·replace c29 := Bool.eq_false_iff.mpr c29
   subst c29
   replace H : (postriderlaw22_GuardChecks.j0 k t422 t431 true) = some r := by rw [if_neg (show ¬ (false = true) by decide)] at H; exact H
   exact absurd (H.trans (congrArg some HT_r.out)) (by cases k <;> simp [postriderlaw22_GuardChecks.j0])
 case rest =>
  clear HC9
  try clear c1
  try clear c2
  try clear p2
  try clear c3
  try clear c8
  try clear c9
  try clear c10
  try clear c11
  try clear c12
  try clear c13
  try clear c14
  try clear c15
  try clear c16
  try clear c17
  try clear c18
  try clear c19
  try clear c29
  try clear c30
  try clear c30b0
  try clear c30b1
  try clear c30b2
  try clear c33
  try clear c33b0
  try clear c33b1
  try clear hcz11_0
  try clear hcz11_1
  try clear hcz11_2
  try clear hcz15_0
  try clear hcz15_1
  try clear hcz15_2
  try clear hcz20_0
  try clear hcz20_1
  try clear hcz20_2
  try clear hcz21_0
  try clear hcz21_1
  try clear hcz21_2
  try clear hfz11_0
  try clear hfz11_1
  try clear hfz11_2
  try clear hfz15_0
  try clear hfz15_1
  try clear hfz15_2
  try clear hfz20_0
  try clear hfz20_1
  try clear hfz20_2
  try clear hfz21_0
  try clear hfz21_1
  try clear hfz21_2
  obtain ⟨kq, x55_8, rfl, HA, HJ8, HO_7, HO_9, HO_405000, HO_419000, BK404, BK418, HB⟩ := hcut
  cases kq with
  | zero => exact absurd HA.out (by simp [postriderlaw22_GuardChecks.j0])
  | succ kj8 =>
   have H := HA.out
   clear HA
   simp only [postriderlaw22_GuardChecks.j0] at H
   by_cases c48 : x55_8 = true
   ·subst c48
    replace H : (some false) = some r := by rw [if_pos rfl] at H; exact H
    exact absurd ((Option.some.inj H).trans HT_r.out) (by decide)
   ·replace c48 := Bool.eq_false_iff.mpr c48
    subst c48
    replace H : (postriderlaw22_GuardChecks.l0 kj8 t422 t431 0) = some r := by rw [if_neg (show ¬ (false = true) by decide)] at H; exact H
    have H' := Aside0.mk H
    clear H
    go_wp2
    go_loopg [10] kj8 (fun kq v10 w' => ∃ (x10_2 : Int), v10 = .int .i64 x10_2 ∧ Aside0 (postriderlaw22_GuardChecks.l0 kq t422 t431 x10_2 = some r) ∧ Aside0 (kq ≤ kj8) ∧ Aside0 (Kd.R k52 52 w' w.heap.size (fun _ => True) v423 t422) ∧ Aside0 (Kd.R k48 48 w' w.heap.size (fun _ => True) v432 t431) ∧ Aside0 (Kd.R k72 72 w' w.heap.size (fun _ => True) (.slice Ao14 t405.length co14) t405) ∧ Aside0 (Kd.R k79 79 w' w.heap.size (fun _ => True) (.slice Ao18 t413.length co18) t413) ∧ Aside0 (w'.heap[gb404]? = some (.cells #[(.slice Ao14 t405.length co14), .string t408, .bool t409] 24 (0, 0))) ∧ Aside0 (w'.heap[gb418]? = some (.cells #[(.slice Ao18 t413.length co18), .string t416, .bool t417] 30 (0, 0))) ∧ Aside0 (Below w.heap.size w w'))
    case atStart => exact ⟨(0), rs, H', ⟨Nat.le_refl _⟩, ⟨kr HO_7.out⟩, ⟨kr HO_9.out⟩, ⟨kr HO_405000.out⟩, ⟨kr HO_419000.out⟩, ⟨bk BK404.out⟩, ⟨bk BK418.out⟩, ⟨bl⟩⟩
    case round =>
     clear H'
     try clear c1
     try clear c2
     try clear p2
     try clear c3
     try clear c4
     try clear c8
     try clear c9
     try clear c10
     try clear c11
     try clear c12
     try clear c13
     try clear c14
     try clear c15
     try clear c16
     try clear c17
     try clear c18
     try clear c19
     try clear c29
     try clear c30
     try clear c30b0
     try clear c30b1
     try clear c30b2
     try clear c33
     try clear c33b0
     try clear c33b1
     try clear c48
     try clear hcz11_0
     try clear hcz11_1
     try clear hcz11_2
     try clear hcz15_0
     try clear hcz15_1
     try clear hcz15_2
     try clear hcz20_0
     try clear hcz20_1
     try clear hcz20_2
     try clear hcz21_0
     try clear hcz21_1
     try clear hcz21_2
     try clear hfz11_0
     try clear hfz11_1
     try clear hfz11_2
     try clear hfz15_0
     try clear hfz15_1
     try clear hfz15_2
     try clear hfz20_0
     try clear hfz20_1
     try clear hfz20_2
     try clear hfz21_0
     try clear hfz21_1
     try clear hfz21_2
     try clear p2
     obtain ⟨x10_2, rfl, HA, HK2, HO_7, HO_9, HO_405000, HO_419000, BK404, BK418, HB⟩ := hrel
     cases gk with
     | zero => exact absurd HA.out (by simp [postriderlaw22_GuardChecks.l0])
     | succ k2 =>
      have H := HA.out
      clear HA
      simp only [postriderlaw22_GuardChecks.l0] at H
      by_cases c49 : x10_2 < (t422.length : Int)
      ·rw [if_pos c49] at H
       have c49b0 : decide (x10_2 < (t422.length : Int)) = true := decide_eq_true c49
       clear c49
       by_cases c50 : 0 ≤ x10_2
       rotate_left
       ·rw [if_neg c50] at H
        exact ab H
       rw [if_pos c50] at H
       have c50b0 : decide (0 ≤ x10_2) = true := decide_eq_true c50
       clear c50
       obtain ⟨⟨t445, t446, t447, t448⟩, A510, H⟩ := Option.bind_eq_some_iff.mp H
       replace H : (if x10_2 < (t431.length : Int) then (if ((!(t445.toList == (((rd_T48 t431 x10_2).f0.f0).toList)) || (!(t446.toList == (((rd_T48 t431 x10_2).f0.f1).toList)))) || (!(t447 == ((rd_T48 t431 x10_2).f1)) || (!(t448.toList == (((rd_T48 t431 x10_2).f2).toList))))) = true then (some false) else (postriderlaw22_GuardChecks.l0 k2 t422 t431 (wrap64 (x10_2 + 1)))) else (none)) = some r := H
       have A51 := Aside0.mk A510
       clear A510
       by_cases c52 : x10_2 < (t431.length : Int)
       rotate_left
       ·rw [if_neg c52] at H
        exact ab H
       rw [if_pos c52] at H
       have c52b0 : decide (x10_2 < (t431.length : Int)) = true := decide_eq_true c52
       clear c52
       by_cases c53 : ((!(t445.toList == (((rd_T48 t431 x10_2).f0.f0).toList)) || (!(t446.toList == (((rd_T48 t431 x10_2).f0.f1).toList)))) || (!(t447 == ((rd_T48 t431 x10_2).f1)) || (!(t448.toList == (((rd_T48 t431 x10_2).f2).toList))))) = true
       ·rw [if_pos c53] at H
        have c53b0 : ((!(t445.toList == (((rd_T48 t431 x10_2).f0.f0).toList)) || (!(t446.toList == (((rd_T48 t431 x10_2).f0.f1).toList)))) || (!(t447 == ((rd_T48 t431 x10_2).f1)) || (!(t448.toList == (((rd_T48 t431 x10_2).f2).toList))))) = true := c53
        clear c53
        exact absurd ((Option.some.inj H).trans HT_r.out) (by decide)
       ·rw [if_neg c53] at H
        have c53b0 : ((!(t445.toList == (((rd_T48 t431 x10_2).f0.f0).toList)) || (!(t446.toList == (((rd_T48 t431 x10_2).f0.f1).toList)))) || (!(t447 == ((rd_T48 t431 x10_2).f1)) || (!(t448.toList == (((rd_T48 t431 x10_2).f2).toList))))) = false := by simpa using c53
        clear c53
        have H' := Aside0.mk H
        clear H
        obtain ⟨Ao54, co54, eo54⟩ := Kd.R_slice HO_7.out
        subst eo54
        try go_wp2
        replace HO_7 := Aside0.mk (Kd.R_drew HO_7.out)
        replace HO_9 := Aside0.mk (Kd.R_drew HO_9.out)
        replace HO_405000 := Aside0.mk (Kd.R_drew HO_405000.out)
        replace HO_419000 := Aside0.mk (Kd.R_drew HO_419000.out)
        replace BK404 := Aside0.mk (blk_drew BK404.out)
        replace BK418 := Aside0.mk (blk_drew BK418.out)
        replace HB := Aside0.mk (below_drew1 HB.out)
        have p444 : 0 ≤ (x10_2 : Int) := od
        have q444 : x10_2 < (t422.length : Int) := od
        obtain ⟨ad444, e444, hx444_0, hx444_1, hx444_2, hx444_3⟩ := at_T52 (Kd.R_reads' HO_7.out).2.2 x10_2 p444 q444
        cases e444
        replace p444 := eq_true p444
        replace q444 := eq_true q444
        obtain ⟨Ao56, co56, eo56⟩ := Kd.R_slice HO_9.out
        (first | subst eo56 | (injection eo56 with f1_ f2_ f3_; have f4_ := f1_.symm; have f5_ := f3_.symm; clear f1_ f2_ f3_; subst f4_; subst f5_))
        have p449 : 0 ≤ (x10_2 : Int) := od
        have q449 : x10_2 < (t431.length : Int) := od
        obtain ⟨ad449, e449, hx449_0, hx449_1, hx449_2, hx449_3⟩ := at_T48 (Kd.R_reads' HO_9.out).2.2 x10_2 p449 q449
        cases e449
        replace p449 := eq_true p449
        replace q449 := eq_true q449
        refine start_ (n := 10) (S := fun w' => w'.cell? (ad444.add ((x10_2).toNat * 4)) = some (.string ((rd_T52 t422 x10_2).f0.f0)) ∧ w'.cell? ⟨(ad444.add ((x10_2).toNat * 4)).block, (ad444.add ((x10_2).toNat * 4)).off + 1, none⟩ = some (.string ((rd_T52 t422 x10_2).f0.f1)) ∧ w'.cell? ⟨(ad444.add ((x10_2).toNat * 4)).block, (ad444.add ((x10_2).toNat * 4)).off + 2, none⟩ = some (.int .i64 ((rd_T52 t422 x10_2).f1)) ∧ w'.cell? ⟨(ad444.add ((x10_2).toNat * 4)).block, (ad444.add ((x10_2).toNat * 4)).off + 3, none⟩ = some (.string ((rd_T52 t422 x10_2).f2)) ∧ w'.cell? (ad449.add ((x10_2).toNat * 4)) = some (.string ((rd_T48 t431 x10_2).f0.f0)) ∧ w'.cell? ⟨(ad449.add ((x10_2).toNat * 4)).block, (ad449.add ((x10_2).toNat * 4)).off + 1, none⟩ = some (.string ((rd_T48 t431 x10_2).f0.f1)) ∧ w'.cell? ⟨(ad449.add ((x10_2).toNat * 4)).block, (ad449.add ((x10_2).toNat * 4)).off + 2, none⟩ = some (.int .i64 ((rd_T48 t431 x10_2).f1)) ∧ w'.cell? ⟨(ad449.add ((x10_2).toNat * 4)).block, (ad449.add ((x10_2).toNat * 4)).off + 3, none⟩ = some (.string ((rd_T48 t431 x10_2).f2))) (ds := []) #[false, false, false, false, false, false, false, false, false, false] kf rfl rfl ⟨hx444_0, hx444_1, hx444_2, hx444_3, hx449_0, hx449_1, hx449_2, hx449_3⟩ (fun hHeld => ?_); refine with_tabW postriderlaw22_GuardChecks.tab10 postriderlaw22_GuardChecks.bits10 (fun HT_ HW_ => ?_)
        generalize wr.drew = w55 at HO_7 HO_9 HO_405000 HO_419000 BK404 BK418 HB hx444_0 hx444_1 hx444_2 hx444_3 hx449_0 hx449_1 hx449_2 hx449_3 hHeld ⊢
        refine pure_ (i := 0) (N := some 62) (v := ?_) (a' := ?_) #[true, false, false, false, false, false, false, false, false, false] rfl rfl (any_of HT_.out kf) (fun _ _ _ h => h) (Or.inl ⟨by rfl, ?_⟩) ?_ ?_
        rotate_left
        ·intro w'
         go_simp
         with_reducible rfl
        rotate_left
        ·simp only [Act.put, sA, sB, sC, i64_w, i32_w]
         rfl
        refine pure_ (i := 1) (N := some 63) (v := ?_) (a' := ?_) #[true, true, false, false, false, false, false, false, false, false] rfl rfl (any_of HT_.out kf) (fun _ _ _ h => h) (Or.inl ⟨by rfl, ?_⟩) ?_ ?_
        rotate_left
        ·intro w'
         go_simp
         with_reducible rfl
        rotate_left
        ·simp only [Act.put, sA, sB, sC, i64_w, i32_w]
         rfl
        refine pure_ (i := 2) (N := some 64) (v := ?_) (a' := ?_) #[true, true, true, false, false, false, false, false, false, false] rfl rfl (any_of HT_.out kf) (fun _ _ _ h => h) (Or.inl ⟨by rfl, ?_⟩) ?_ ?_
        rotate_left
        ·intro w'
         go_simp
         with_reducible rfl
        rotate_left
        ·simp only [Act.put, sA, sB, sC, i64_w, i32_w]
         rfl
        refine pure_ (i := 5) (N := some 67) (v := ?_) (a' := ?_) #[true, true, true, false, false, true, false, false, false, false] rfl rfl (any_of HT_.out kf) (fun _ _ _ h => h) (Or.inl ⟨by rfl, ?_⟩) ?_ ?_
        rotate_left
        ·intro w'
         go_simp
         with_reducible rfl
        rotate_left
        ·simp only [Act.put, sA, sB, sC, i64_w, i32_w]
         rfl
        refine pure_ (i := 6) (N := some 68) (v := ?_) (a' := ?_) #[true, true, true, false, false, true, true, false, false, false] rfl rfl (any_of HT_.out kf) (fun _ _ _ h => h) (Or.inl ⟨by rfl, ?_⟩) ?_ ?_
        rotate_left
        ·intro w'
         go_simp
         with_reducible rfl
        rotate_left
        ·simp only [Act.put, sA, sB, sC, i64_w, i32_w]
         rfl
        refine pure_ (i := 7) (N := some 69) (v := ?_) (a' := ?_) #[true, true, true, false, false, true, true, true, false, false] rfl rfl (any_of HT_.out kf) (fun _ _ _ h => h) (Or.inl ⟨by rfl, ?_⟩) ?_ ?_
        rotate_left
        ·intro w'
         go_simp
         with_reducible rfl
        rotate_left
        ·simp only [Act.put, sA, sB, sC, i64_w, i32_w]
         rfl
        refine take_ (i := 3) (N := some 65) (v := ?_) (a' := ?_) #[true, true, true, true, false, true, true, true, false, false] rfl rfl (take_ofW HT_.out HW_.out kf) (fun _ _ _ h => h) (Or.inl ⟨by rfl, ?_⟩) hHeld ?_ ?_
        rotate_left
        ·rintro w' ⟨s0, s1, s2, s3, s4, s5, s6, s7⟩
         go_simp
         with_reducible rfl
        rotate_left
        ·simp only [Act.put, sA, sB, sC, i64_w, i32_w]
         rfl
        refine take_ (i := 8) (N := some 70) (v := ?_) (a' := ?_) #[true, true, true, true, false, true, true, true, true, false] rfl rfl (take_ofW HT_.out HW_.out kf) (fun _ _ _ h => h) (Or.inl ⟨by rfl, ?_⟩) hHeld ?_ ?_
        rotate_left
        ·rintro w' ⟨s0, s1, s2, s3, s4, s5, s6, s7⟩
         go_simp
         with_reducible rfl
        rotate_left
        ·simp only [Act.put, sA, sB, sC, i64_w, i32_w]
         rfl
        refine one_ (i := 4) (N := some 66) #[true, true, true, true, true, true, true, true, true, false] rfl rfl (one_of HT_.out kf) (by decide) (fun K hK => ?_)
        refine goes_ Tryz.func19 kf rfl #[.agg #[.string ((rd_T52 t422 x10_2).f0.f0), .string ((rd_T52 t422 x10_2).f0.f1), .int .i64 ((rd_T52 t422 x10_2).f1), .string ((rd_T52 t422 x10_2).f2)]] (by rfl) rfl rfl ml ?_
        with_reducible refine (postriderlaw20_Failure.calls ((rd_T52 t422 x10_2).f0.f0) ((rd_T52 t422 x10_2).f0.f1) ((rd_T52 t422 x10_2).f1) ((rd_T52 t422 x10_2).f2) t445 t446 t447 t448 _ A51.out).mono ?_
        rintro e w57 ⟨rfl, hb⟩
        have HS0_ := (hb.cell (World.block_lt_of_cell? _ _ (hHeld.1))).trans (hHeld.1)
        have HS1_ := (hb.cell (World.block_lt_of_cell? _ _ (hHeld.2.1))).trans (hHeld.2.1)
        have HS2_ := (hb.cell (World.block_lt_of_cell? _ _ (hHeld.2.2.1))).trans (hHeld.2.2.1)
        have HS3_ := (hb.cell (World.block_lt_of_cell? _ _ (hHeld.2.2.2.1))).trans (hHeld.2.2.2.1)
        have HS4_ := (hb.cell (World.block_lt_of_cell? _ _ (hHeld.2.2.2.2.1))).trans (hHeld.2.2.2.2.1)
        have HS5_ := (hb.cell (World.block_lt_of_cell? _ _ (hHeld.2.2.2.2.2.1))).trans (hHeld.2.2.2.2.2.1)
        have HS6_ := (hb.cell (World.block_lt_of_cell? _ _ (hHeld.2.2.2.2.2.2.1))).trans (hHeld.2.2.2.2.2.2.1)
        have HS7_ := (hb.cell (World.block_lt_of_cell? _ _ (hHeld.2.2.2.2.2.2.2))).trans (hHeld.2.2.2.2.2.2.2)
        refine ⟨_, rfl, ?_⟩
        replace HO_7 := Aside0.mk (Kd.R_below (kr HO_7.out) hb)
        replace HO_9 := Aside0.mk (Kd.R_below (kr HO_9.out) hb)
        replace HO_405000 := Aside0.mk (Kd.R_below (kr HO_405000.out) hb)
        replace HO_419000 := Aside0.mk (Kd.R_below (kr HO_419000.out) hb)
        replace BK404 := Aside0.mk (kb BK404.out hb)
        replace BK418 := Aside0.mk (kb BK418.out hb)
        replace HB := Aside0.mk (below_step bl hb)
        (try clear hb)
        (try clear hb2)
        (try clear hk)
        (try clear hi)
        refine hK.out _ _ ⟨HS0_, HS1_, HS2_, HS3_, HS4_, HS5_, HS6_, HS7_⟩ (fun hHeld => ?_)
        clear hK K
        refine norm_ (a' := ?_) ?_ ?_
        rotate_left
        ·show Act.put _ (some 66) _ = _
         simp only [Act.put, sA, sB, sC, i64_w, i32_w]
         rfl
        refine pure_ (i := 9) (N := some 71) (v := ?_) (a' := ?_) #[true, true, true, true, true, true, true, true, true, true] rfl rfl (any_of HT_.out kf) (fun _ _ _ h => h) (Or.inl ⟨by rfl, ?_⟩) ?_ ?_
        rotate_left
        ·intro w'
         go_simp
         with_reducible rfl
        rotate_left
        ·simp only [Act.put, sA, sB, sC, i64_w, i32_w]
         rfl
        refine done_ (done_of HT_.out kf) ?_
        try go_wp2
        go_roundg k2
        case measure => have := HJ8.out; have := HK2.out; omega
        case rel => exact ⟨(wrap64 (x10_2 + 1)), rs, H', ⟨by have := HJ8.out; have := HK2.out; omega⟩, ⟨kr HO_7.out⟩, ⟨kr HO_9.out⟩, ⟨kr HO_405000.out⟩, ⟨kr HO_419000.out⟩, ⟨bk BK404.out⟩, ⟨bk BK418.out⟩, ⟨bl⟩⟩
      ·rw [if_neg c49] at H
       have c49b0 : decide (x10_2 < (t422.length : Int)) = false := decide_eq_false c49
       clear c49
       obtain ⟨t450, A580, H⟩ := Option.bind_eq_some_iff.mp H
       replace H : (some t450) = some r := H
       have A58 := Aside0.mk A580
       clear A580
       obtain rfl := Option.some.inj H
       obtain ⟨Ao59, co59, eo59⟩ := Kd.R_slice HO_7.out
       subst eo59
       go_wp2_with (first | ((with_reducible refine gate_callee (f := 20) rfl ?_); refine goesL_ (some 72) rfl rfl Tryz.func20 kf rfl #[] rfl ml ?_; (with_reducible refine (postriderlaw22_tells.calls k2  t450 _ ?side1 ?side2 A58.out).mono ?_); (case side1 => exact Glob.below HG.out bl); (case side2 => first | rfl | exact HT_r.out); rintro e w60 ⟨rfl, hb⟩; refine ⟨_, rfl, ?_⟩; replace HO_7 := Aside0.mk (Kd.R_below (kr HO_7.out) hb); replace HO_9 := Aside0.mk (Kd.R_below (kr HO_9.out) hb); replace HO_405000 := Aside0.mk (Kd.R_below (kr HO_405000.out) hb); replace HO_419000 := Aside0.mk (Kd.R_below (kr HO_419000.out) hb); replace BK404 := Aside0.mk (kb BK404.out hb); replace BK418 := Aside0.mk (kb BK418.out hb); replace HB := Aside0.mk (below_step bl hb); (try clear hb); (try clear hb2); (try clear hk); (try clear hi)))
       go_ret
       exact ⟨rf, bl⟩

/-- THE ONE PURE STATEMENT of postriderlaw22_GuardChecks: yours. -/
def postriderlaw22_GuardChecks.Pure : Prop := ∀ (l0_0 : List (S72)) (a0_1 : ByteArray) (a0_2 : Bool) (l1 : List (S50)), l0_0.length ≤ maxLen → (∀ y_ ∈ l0_0, (y_.f0.size ≤ maxLen ∧ y_.f1.size ≤ maxLen ∧ y_.f2.size ≤ maxLen)) → a0_1.size ≤ maxLen → l1.length ≤ maxLen → (∀ y_ ∈ l1, (y_.f0.size ≤ maxLen ∧ y_.f1.size ≤ maxLen)) → ∃ k, postriderlaw22_GuardChecks.f k l0_0 a0_1 a0_2 l1 = some true
theorem postriderlaw22_GuardChecks.walk (P : postriderlaw22_GuardChecks.Pure) (A0_0 : Option Addr) (c0_0 : Nat) (l0_0 : List (S72)) (a0_1 : ByteArray) (a0_2 : Bool) (A1 : Option Addr) (c1 : Nat) (l1 : List (S50)) (w : World) (hr0_0 : Kd.C k72 w A0_0 l0_0.length l0_0) (hc0_0 : l0_0.length ≤ c0_0) (hm0_0 : l0_0.length ≤ maxLen) (hw0_0 : ∀ y_ ∈ l0_0, (y_.f0.size ≤ maxLen ∧ y_.f1.size ≤ maxLen ∧ y_.f2.size ≤ maxLen)) (w0_1 : a0_1.size ≤ maxLen) (hr1 : Kd.C k50 w A1 l1.length l1) (hc1 : l1.length ≤ c1) (hm1 : l1.length ≤ maxLen) (hw1 : ∀ y_ ∈ l1, (y_.f0.size ≤ maxLen ∧ y_.f1.size ≤ maxLen)) (hG : Glob w) :
  Calls Tryz.prog 3 #[.agg #[.slice A0_0 l0_0.length c0_0, .string a0_1, .bool a0_2], .slice A1 l1.length c1] w fun e w' => e = .returned (.bool true) ∧ Below w.heap.size w w' := by
 obtain ⟨k, h⟩ := P l0_0 a0_1 a0_2 l1 hm0_0 hw0_0 w0_1 hm1 hw1
 refine (postriderlaw22_GuardChecks.calls k _ _ l0_0 a0_1 a0_2 _ _ l1 true w hr0_0 hc0_0 hr1 hc1 hG rfl h).mono ?_
 rintro e w' ⟨rfl, hd⟩
 exact ⟨rfl, hd⟩

end Go.Proofs.YtacjnapgdikhbaaGreatDoor.Q
end
