-- Written by this session's own program (wip/tools: a patched run of the printer) out of the translation.
import Derived.Test.YtdciiahlakgikaaDoorQx0
import Derived.Test.YtdciiahlakgikaaDoorQx5
namespace Go.Proofs.YtdciiahlakgikaaDoor.Q
open Go.RowKit Go.Proofs.YtdciiahlakgikaaDoorW.PrintWords Go.Proofs.YtdciiahlakgikaaDoorW.PrintLast Go.Proofs.YtdciiahlakgikaaDoorW.PrintMore
attribute [local go_sem] max2_int min2_int max_two min_two max_three min_three max_four min_four   -- for this text's walks alone
set_option linter.unusedVariables false
set_option linter.unusedSimpArgs false

/-! ### postriderlaw07_HeadKnown: function 8 -/
set_option maxHeartbeats 8000000 in
set_option maxRecDepth 100000 in
theorem postriderlaw07_HeadKnown.calls (k : Nat)  (r : Bool) (w : World) (hG : Glob w) (hT : r = true) (h : postriderlaw07_HeadKnown.f k  = some r) :
  Calls Tryd.prog 8 #[] w fun e w' => e = .returned (.bool r) ∧ Below w.heap.size w w' := by
 have hu24 := Tryd.underlying24
 have hu41 := Tryd.underlying41
 have HB := Aside0.mk (Below.refl w.heap.size w)
 have HG := Aside0.mk hG
 clear hG
 have HT_r := Aside0.mk hT
 clear hT
 have H : ((postriderlaw07_HeadKnown_map0.f k).bind fun t248 => ((head_Parse.f k (⟨#[65, 58, 32, 49, 13, 10, 98, 32, 58, 32, 50, 32, 13, 10, 9, 51, 13, 10, 97, 58, 52, 13, 10, 13, 10, 13, 10]⟩ : ByteArray)).bind fun bt249 => (if bt249.2.2.2 = 0 then (if (bt249.1.length : Int) = 3 then (if 1 < (bt249.1.length : Int) then (if ((rd_T41 bt249.1 1).f0).toList = ([98] : List UInt8) then (if ((rd_T41 bt249.1 1).f1).toList = ([50, 32, 9, 51] : List UInt8) then (if bt249.2.1.toList = ([13, 10] : List UInt8) then ((head_Message_Find.f bt249.1 bt249.2.1 bt249.2.2.1 (⟨#[97]⟩ : ByteArray)).bind fun t258 => ((slices_Equal_string_string.f k t258 (([(⟨#[49]⟩ : ByteArray), (⟨#[52]⟩ : ByteArray)] : List ByteArray))).bind fun t264 => (if t264 = true then ((head_Message_Count.f bt249.1 bt249.2.1 bt249.2.2.1 (⟨#[66]⟩ : ByteArray)).bind fun t265 => (if t265 = 1 then ((head_Message_Count.f bt249.1 bt249.2.1 bt249.2.2.1 (⟨#[99]⟩ : ByteArray)).bind fun t266 => (postriderlaw07_HeadKnown.j0 k (t266 != 0) bt249.1 bt249.2.1 bt249.2.2.1)) else (postriderlaw07_HeadKnown.j0 k true bt249.1 bt249.2.1 bt249.2.2.1))) else (postriderlaw07_HeadKnown.j0 k true bt249.1 bt249.2.1 bt249.2.2.1)))) else (postriderlaw07_HeadKnown.j0 k true bt249.1 bt249.2.1 bt249.2.2.1)) else (postriderlaw07_HeadKnown.j0 k true bt249.1 bt249.2.1 bt249.2.2.1)) else (postriderlaw07_HeadKnown.j0 k true bt249.1 bt249.2.1 bt249.2.2.1)) else (none)) else (postriderlaw07_HeadKnown.j0 k true bt249.1 bt249.2.1 bt249.2.2.1)) else (postriderlaw07_HeadKnown.j0 k true bt249.1 bt249.2.1 bt249.2.2.1)))) = some r := h
 clear h
 replace H := Option.bind_eq_some_iff.mp H
 obtain ⟨t248, A10, H⟩ := H
 replace H : ((head_Parse.f k (⟨#[65, 58, 32, 49, 13, 10, 98, 32, 58, 32, 50, 32, 13, 10, 9, 51, 13, 10, 97, 58, 52, 13, 10, 13, 10, 13, 10]⟩ : ByteArray)).bind fun bt249 => (if bt249.2.2.2 = 0 then (if (bt249.1.length : Int) = 3 then (if 1 < (bt249.1.length : Int) then (if ((rd_T41 bt249.1 1).f0).toList = ([98] : List UInt8) then (if ((rd_T41 bt249.1 1).f1).toList = ([50, 32, 9, 51] : List UInt8) then (if bt249.2.1.toList = ([13, 10] : List UInt8) then ((head_Message_Find.f bt249.1 bt249.2.1 bt249.2.2.1 (⟨#[97]⟩ : ByteArray)).bind fun t258 => ((slices_Equal_string_string.f k t258 (([(⟨#[49]⟩ : ByteArray), (⟨#[52]⟩ : ByteArray)] : List ByteArray))).bind fun t264 => (if t264 = true then ((head_Message_Count.f bt249.1 bt249.2.1 bt249.2.2.1 (⟨#[66]⟩ : ByteArray)).bind fun t265 => (if t265 = 1 then ((head_Message_Count.f bt249.1 bt249.2.1 bt249.2.2.1 (⟨#[99]⟩ : ByteArray)).bind fun t266 => (postriderlaw07_HeadKnown.j0 k (t266 != 0) bt249.1 bt249.2.1 bt249.2.2.1)) else (postriderlaw07_HeadKnown.j0 k true bt249.1 bt249.2.1 bt249.2.2.1))) else (postriderlaw07_HeadKnown.j0 k true bt249.1 bt249.2.1 bt249.2.2.1)))) else (postriderlaw07_HeadKnown.j0 k true bt249.1 bt249.2.1 bt249.2.2.1)) else (postriderlaw07_HeadKnown.j0 k true bt249.1 bt249.2.1 bt249.2.2.1)) else (postriderlaw07_HeadKnown.j0 k true bt249.1 bt249.2.1 bt249.2.2.1)) else (none)) else (postriderlaw07_HeadKnown.j0 k true bt249.1 bt249.2.1 bt249.2.2.1)) else (postriderlaw07_HeadKnown.j0 k true bt249.1 bt249.2.1 bt249.2.2.1))) = some r := H
 have A1 := Aside0.mk A10
 clear A10
 replace H := Option.bind_eq_some_iff.mp H
 obtain ⟨⟨t249, t252, t253, t254⟩, A20, H⟩ := H
 replace H : (if t254 = 0 then (if (t249.length : Int) = 3 then (if 1 < (t249.length : Int) then (if ((rd_T41 t249 1).f0).toList = ([98] : List UInt8) then (if ((rd_T41 t249 1).f1).toList = ([50, 32, 9, 51] : List UInt8) then (if t252.toList = ([13, 10] : List UInt8) then ((head_Message_Find.f t249 t252 t253 (⟨#[97]⟩ : ByteArray)).bind fun t258 => ((slices_Equal_string_string.f k t258 (([(⟨#[49]⟩ : ByteArray), (⟨#[52]⟩ : ByteArray)] : List ByteArray))).bind fun t264 => (if t264 = true then ((head_Message_Count.f t249 t252 t253 (⟨#[66]⟩ : ByteArray)).bind fun t265 => (if t265 = 1 then ((head_Message_Count.f t249 t252 t253 (⟨#[99]⟩ : ByteArray)).bind fun t266 => (postriderlaw07_HeadKnown.j0 k (t266 != 0) t249 t252 t253)) else (postriderlaw07_HeadKnown.j0 k true t249 t252 t253))) else (postriderlaw07_HeadKnown.j0 k true t249 t252 t253)))) else (postriderlaw07_HeadKnown.j0 k true t249 t252 t253)) else (postriderlaw07_HeadKnown.j0 k true t249 t252 t253)) else (postriderlaw07_HeadKnown.j0 k true t249 t252 t253)) else (none)) else (postriderlaw07_HeadKnown.j0 k true t249 t252 t253)) else (postriderlaw07_HeadKnown.j0 k true t249 t252 t253)) = some r := H
 have A2 := Aside0.mk A20
 clear A20
 have HC3 := Aside0.mk H
 clear H
 go_enter Tryd.func8, Tryd.ntmps8
 have HK0 : Aside0 (∀ z ∈ hkRow, ∃ v, head_Parse.f k z.1 = some v ∧ v.2.2.2 = z.2) := ⟨fun z hz => by
   have h1 := A1.out
   unfold postriderlaw07_HeadKnown_map0.f at h1
   split at h1
   · rename_i h2
     have h3 := List.all_eq_true.1 h2 z hz
     rw [decide_eq_true_eq] at h3
     exact Option.map_eq_some_iff.1 h3
   · cases h1⟩
 go_upto_region 1 with (fail)
 refine hk_region (by simp) ?_
 intro bm rm wn nm cnt0 Dm left0 hSm hrg0 hbn hlow
 rw [hk_put]
 simp only [List.setIfInBounds_toArray, List.set_cons_zero, List.set_cons_succ]
 have law9 : Maps.Keyed Tryd.prog 9 := Maps.string_keyed Tryd.underlying9
 have HRG := Aside0.mk hrg0
 have HB0 := Aside0.mk (HB.out.trans (hbn.mono HB.out.size))
 have HSM := Aside0.mk hSm
 have HRL := Aside0.mk (Nat.le_trans HB.out.size hlow)
 clear hrg0 hbn hSm hlow
 go_upto_block 0 with (fail)
 go_cut [] (fun wc => Aside0 (Below w.heap.size w wc))
 case first => as_aux_lemma =>
  go_wp2
  go_loopw [1] (fun _ wr => ∃ (left : Lit → Bool) (cnt : Nat), Aside0 (wr.ranges Tryd.prog 9 (plainElem (H := Unit) Tryd.prog 25) bm rm nm Dm left cnt) ∧ Aside0 (Below w.heap.size w wr)) (fun _ wr => wr.rangeLeft bm rm)
  case atStart => exact ⟨_, _, HRG, HB0⟩
  case round => as_aux_lemma =>
   clear HRG HB0
   obtain ⟨left, cnt, HRG, HB0⟩ := hrel
   go_wp2_with (at_next; refine wpList_next_ranges _ rfl _ rfl 9 law9 (plainElem (H := Unit) Tryd.prog 25) Value.string (Value.int .i64) (inv_s Tryd.underlying9) (inv_i Tryd.underlying25) bm rm _ _ _ _ rfl HRG.out ?_ ?_)
   · intro _ _
     go_wp2
     go_meet
     case rel => exact HB0
   · intro x c kl yd yp wx cntx hkey hlk hv hat hrgx hltx hgx hsx hen
     obtain ⟨⟨r0_, r1_, r2_, r3_⟩, hq, hc⟩ := HK0.out _ (mem_sub (x := x) (c := c) (y := (yd, yp)) Tryd.underlying9 Tryd.underlying25 HSM.out hkey hv hat)
     have HBX : Aside0 (Below w.heap.size w wx) := ⟨HB0.out.grown hgx HB0.out.size (fun k_ hk_ => by cases hk_; exact HRL.out)⟩
     have HQ := Aside0.mk hq
     have HRX := Aside0.mk hrgx
     have HLX := Aside0.mk hltx
     have HLE := Aside0.mk HRG.out.left_eq
     obtain rfl : r3_ = c := hc
     have hcc : (r3_ != r3_) = false := by simp
     clear hkey hv hat hlk hq hrgx hltx hgx hsx
     go_wp2_with (go_at_call 9; (with_reducible refine (head_Parse.calls k _ _ _ _ _ _ (Glob.below HG.out HBX.out) HQ.out).mono ?_); rintro e wy ⟨v0_, rfl, hRy, hby⟩; obtain ⟨Ay_, cy_, ey_⟩ := Kd.R_slice hRy; subst ey_; clear hRy)
     go_roundw
     case rel => exact ⟨_, cntx, ⟨(HRX.out.kept (grown_of_below hby none) (by simp) (by simp)).alloc _⟩, ⟨below_alloc (HBX.out.trans (hby.mono HBX.out.size)) _⟩⟩
     case measure => rw [((HRX.out.kept (grown_of_below hby none) (by simp) (by simp)).alloc _).left_eq, HLE.out]; exact HLX.out
 clear HB HB0 HRG HRL HSM law9
 have HB := hcut
 go_upto_region 8 with (first | ((with_reducible refine gate_callee (f := 9) rfl ?_); refine goesL_ (some 51) rfl rfl Tryd.func9 (by kernel_rfl) rfl #[.string (⟨#[65, 58, 32, 49, 13, 10, 98, 32, 58, 32, 50, 32, 13, 10, 9, 51, 13, 10, 97, 58, 52, 13, 10, 13, 10, 13, 10]⟩ : ByteArray)] rfl ml ?_; (with_reducible refine (head_Parse.calls k (⟨#[65, 58, 32, 49, 13, 10, 98, 32, 58, 32, 50, 32, 13, 10, 9, 51, 13, 10, 97, 58, 52, 13, 10, 13, 10, 13, 10]⟩ : ByteArray) t249 t252 t253 t254 _ ?side1 A2.out).mono ?_); (case side1 => exact Glob.below HG.out bl); rintro e w5 ⟨v250, rfl, ho0, hb⟩; refine ⟨_, rfl, ?_⟩; have n0_ := Aside0.mk (Kd.R_lower ho0 (below_size bl)); have n1_ := Aside0.mk (below_step bl hb); clear HB; have HO251 := n0_; have HB := n1_; clear n0_ n1_; (try clear hb); (try clear hb2); (try clear hk); (try clear hi); (try clear ho0)) | ((with_reducible refine gate_dst (N := 5) rfl ?_); (try (refine gate_guard (by rfl) ?_; dsimp only)); refine box_event ?hg (N := 5) ?hd (cs := #[.slice none 0 0, .string (⟨#[]⟩ : ByteArray), .bool false]) (t := 24) ?hr ?_; (case hd => rfl); (case hg => rfl); (case hr => first | (go_simp; done) | (go_simp; rfl)); intro gb255 hg w6 hbox hb; have n0_ := Aside0.mk (Kd.R_below (kr HO251.out) hb); have n1_ := Aside0.mk (below_step bl hb); have n2_ := Aside0.mk (hbox); have n3_ := Aside0.mk ((by rw [hg]; exact (below_size bl) : w.heap.size ≤ gb255)); have n4_ := Aside0.mk ((by rw [hg]; exact (below_size bl) : w.heap.size ≤ gb255)); clear HO251; clear HB; have HO251 := n0_; have HB := n1_; have BK255 := n2_; have GW255 := n3_; have GE255 := n4_; clear n0_ n1_ n2_ n3_ n4_; clear hb hbox hg; obtain ⟨Ao7, co7, eo7⟩ := Kd.R_slice HO251.out; subst eo7; have hcz8_0 : w6.cell? ⟨gb255, 0, none⟩ = some (.slice none 0 0) := (blk_cell BK255.out 0).trans rfl; have hcz8_1 : w6.cell? ⟨gb255, 1, none⟩ = some (.string (⟨#[]⟩ : ByteArray)) := (blk_cell BK255.out 1).trans rfl; have hcz8_2 : w6.cell? ⟨gb255, 2, none⟩ = some (.bool false) := (blk_cell BK255.out 2).trans rfl; have hfz8_0 := blk_frozen BK255.out 0; have hfz8_1 := blk_frozen BK255.out 1; have hfz8_2 := blk_frozen BK255.out 2))
 (try simp only [Act.put, List.setIfInBounds_toArray, List.set_cons_zero, List.set_cons_succ])
 go_cut [99] (fun v99 wc => ∃ (kq : Nat) (x99_2 : Bool), v99 = .bool x99_2 ∧ Aside0 (postriderlaw07_HeadKnown.j0 kq x99_2 t249 t252 t253 = some r) ∧ Aside0 (kq ≤ k) ∧ Aside0 (Kd.R k41 41 wc w.heap.size (fun _ => True) (.slice Ao7 t249.length co7) t249) ∧ Aside0 (wc.heap[gb255]? = some (.cells #[(.slice Ao7 t249.length co7), .string t252, .bool t253] 24 (0, 0))) ∧ Aside0 (Below w.heap.size w wc))
 case first => as_aux_lemma =>
  have H := HC3.out
  clear HC3
  by_cases c9 : t254 = 0
  rotate_left
  ·rw [if_neg c9] at H
   exact absurd (H.trans (congrArg some HT_r.out)) (by cases k <;> simp [postriderlaw07_HeadKnown.j0])
  rw [if_pos c9] at H
  have c9b0 : (t254 == 0) = true := beq_iff_eq.mpr c9
  have c9b1 : (t254 != 0) = false := bne_eq_false_iff_eq.mpr c9
  clear c9
  (first | rw [c9b0] | (simp only [i64_w, i32_w]; rw [c9b0]) | skip)
  by_cases c10 : (t249.length : Int) = 3
  rotate_left
  ·rw [if_neg c10] at H
   exact absurd (H.trans (congrArg some HT_r.out)) (by cases k <;> simp [postriderlaw07_HeadKnown.j0])
  rw [if_pos c10] at H
  have c10b0 : ((t249.length : Int) == 3) = true := beq_iff_eq.mpr c10
  have c10b1 : ((t249.length : Int) != 3) = false := bne_eq_false_iff_eq.mpr c10
  clear c10
  by_cases c11 : 1 < (t249.length : Int)
  rotate_left
  ·rw [if_neg c11] at H
   exact absurd H (by simp)
  rw [if_pos c11] at H
  have c11b0 : decide (1 < (t249.length : Int)) = true := decide_eq_true c11
  have c11b1 : decide (1 < t249.length) = true := decide_eq_true (by omega)
  clear c11
  by_cases c12 : ((rd_T41 t249 1).f0).toList = ([98] : List UInt8)
  rotate_left
  ·rw [if_neg c12] at H
   exact absurd (H.trans (congrArg some HT_r.out)) (by cases k <;> simp [postriderlaw07_HeadKnown.j0])
  rw [if_pos c12] at H
  have c12b0 : (((rd_T41 t249 1).f0).toList == ([98] : List UInt8)) = true := beq_iff_eq.mpr c12
  have c12b1 : (((rd_T41 t249 1).f0).toList != ([98] : List UInt8)) = false := bne_eq_false_iff_eq.mpr c12
  clear c12
  by_cases c13 : ((rd_T41 t249 1).f1).toList = ([50, 32, 9, 51] : List UInt8)
  rotate_left
  ·rw [if_neg c13] at H
   exact absurd (H.trans (congrArg some HT_r.out)) (by cases k <;> simp [postriderlaw07_HeadKnown.j0])
  rw [if_pos c13] at H
  have c13b0 : (((rd_T41 t249 1).f1).toList == ([50, 32, 9, 51] : List UInt8)) = true := beq_iff_eq.mpr c13
  have c13b1 : (((rd_T41 t249 1).f1).toList != ([50, 32, 9, 51] : List UInt8)) = false := bne_eq_false_iff_eq.mpr c13
  clear c13
  by_cases c14 : t252.toList = ([13, 10] : List UInt8)
  rotate_left
  ·rw [if_neg c14] at H
   exact absurd (H.trans (congrArg some HT_r.out)) (by cases k <;> simp [postriderlaw07_HeadKnown.j0])
  rw [if_pos c14] at H
  have c14b0 : (t252.toList == ([13, 10] : List UInt8)) = true := beq_iff_eq.mpr c14
  have c14b1 : (t252.toList != ([13, 10] : List UInt8)) = false := bne_eq_false_iff_eq.mpr c14
  clear c14
  replace H := Option.bind_eq_some_iff.mp H
  obtain ⟨t258, A150, H⟩ := H
  replace H : ((slices_Equal_string_string.f k t258 (([(⟨#[49]⟩ : ByteArray), (⟨#[52]⟩ : ByteArray)] : List ByteArray))).bind fun t264 => (if t264 = true then ((head_Message_Count.f t249 t252 t253 (⟨#[66]⟩ : ByteArray)).bind fun t265 => (if t265 = 1 then ((head_Message_Count.f t249 t252 t253 (⟨#[99]⟩ : ByteArray)).bind fun t266 => (postriderlaw07_HeadKnown.j0 k (t266 != 0) t249 t252 t253)) else (postriderlaw07_HeadKnown.j0 k true t249 t252 t253))) else (postriderlaw07_HeadKnown.j0 k true t249 t252 t253))) = some r := H
  have A15 := Aside0.mk A150
  clear A150
  obtain ⟨y261, hy261⟩ : ∃ y_ : List ByteArray, y_ = (([(⟨#[49]⟩ : ByteArray), (⟨#[52]⟩ : ByteArray)] : List ByteArray)) := ⟨_, rfl⟩
  replace H : ((slices_Equal_string_string.f k t258 y261).bind fun t264 => (if t264 = true then ((head_Message_Count.f t249 t252 t253 (⟨#[66]⟩ : ByteArray)).bind fun t265 => (if t265 = 1 then ((head_Message_Count.f t249 t252 t253 (⟨#[99]⟩ : ByteArray)).bind fun t266 => (postriderlaw07_HeadKnown.j0 k (t266 != 0) t249 t252 t253)) else (postriderlaw07_HeadKnown.j0 k true t249 t252 t253))) else (postriderlaw07_HeadKnown.j0 k true t249 t252 t253))) = some r := by first | (rw [hy261]; with_reducible exact H) | (have H2_ := (Option.bind_some _ _).symm.trans H; rw [hy261]; with_reducible exact H2_) | (have H2_ := (Option.bind_some _ _).symm.trans H; with_reducible exact H2_) | with_reducible exact H | (rw [hy261]; exact H) | exact H
  have Ny261 := Aside0.mk hy261
  clear hy261
  replace H := Option.bind_eq_some_iff.mp H
  obtain ⟨t264, A160, H⟩ := H
  replace H : (if t264 = true then ((head_Message_Count.f t249 t252 t253 (⟨#[66]⟩ : ByteArray)).bind fun t265 => (if t265 = 1 then ((head_Message_Count.f t249 t252 t253 (⟨#[99]⟩ : ByteArray)).bind fun t266 => (postriderlaw07_HeadKnown.j0 k (t266 != 0) t249 t252 t253)) else (postriderlaw07_HeadKnown.j0 k true t249 t252 t253))) else (postriderlaw07_HeadKnown.j0 k true t249 t252 t253)) = some r := H
  have A16 := Aside0.mk A160
  clear A160
  by_cases c17 : t264 = true
  rotate_left
  ·replace c17 := Bool.eq_false_iff.mpr c17
   subst c17
   have H1 : (postriderlaw07_HeadKnown.j0 k true t249 t252 t253) = some r := by rw [if_neg (show ¬ (false = true) by decide)] at H; exact H
   clear H
   have H := H1
   clear H1
   exact absurd (H.trans (congrArg some HT_r.out)) (by cases k <;> simp [postriderlaw07_HeadKnown.j0])
  subst c17
  have H1 : ((head_Message_Count.f t249 t252 t253 (⟨#[66]⟩ : ByteArray)).bind fun t265 => (if t265 = 1 then ((head_Message_Count.f t249 t252 t253 (⟨#[99]⟩ : ByteArray)).bind fun t266 => (postriderlaw07_HeadKnown.j0 k (t266 != 0) t249 t252 t253)) else (postriderlaw07_HeadKnown.j0 k true t249 t252 t253))) = some r := by rw [if_pos rfl] at H; exact H
  clear H
  have H := H1
  clear H1
  replace H := Option.bind_eq_some_iff.mp H
  obtain ⟨t265, A180, H⟩ := H
  replace H : (if t265 = 1 then ((head_Message_Count.f t249 t252 t253 (⟨#[99]⟩ : ByteArray)).bind fun t266 => (postriderlaw07_HeadKnown.j0 k (t266 != 0) t249 t252 t253)) else (postriderlaw07_HeadKnown.j0 k true t249 t252 t253)) = some r := H
  have A18 := Aside0.mk A180
  clear A180
  by_cases c19 : t265 = 1
  rotate_left
  ·rw [if_neg c19] at H
   exact absurd (H.trans (congrArg some HT_r.out)) (by cases k <;> simp [postriderlaw07_HeadKnown.j0])
  rw [if_pos c19] at H
  have c19b0 : (t265 == 1) = true := beq_iff_eq.mpr c19
  have c19b1 : (t265 != 1) = false := bne_eq_false_iff_eq.mpr c19
  clear c19
  replace H := Option.bind_eq_some_iff.mp H
  obtain ⟨t266, A200, H⟩ := H
  replace H : (postriderlaw07_HeadKnown.j0 k (t266 != 0) t249 t252 t253) = some r := H
  have A20 := Aside0.mk A200
  clear A200
  have H' := Aside0.mk H
  clear H
  have hcz21_0 : w6.cell? ⟨gb255, 0, none⟩ = some (.slice none 0 0) := (blk_cell BK255.out 0).trans rfl
  have hcz21_1 : w6.cell? ⟨gb255, 1, none⟩ = some (.string (⟨#[]⟩ : ByteArray)) := (blk_cell BK255.out 1).trans rfl
  have hcz21_2 : w6.cell? ⟨gb255, 2, none⟩ = some (.bool false) := (blk_cell BK255.out 2).trans rfl
  have hfz21_0 := blk_frozen BK255.out 0
  have hfz21_1 := blk_frozen BK255.out 1
  have hfz21_2 := blk_frozen BK255.out 2
  have p256 : 0 ≤ (1 : Int) := (by omega)
  have q256 : 1 < (t249.length : Int) := od
  obtain ⟨ad256, e256, hx256_0, hx256_1, hx256_2⟩ := at_T41 (Kd.R_reads' HO251.out).2.2 1 p256 q256
  cases e256
  (try simp only [show (1 : Int).toNat = 1 from rfl, Nat.reduceMul, Nat.reduceEqDiff, Go.Addr.add, ↓reduceIte] at hx256_0)
  (try simp only [show (1 : Int).toNat = 1 from rfl, Nat.reduceMul, Nat.reduceEqDiff, Go.Addr.add, ↓reduceIte] at hx256_1)
  (try simp only [show (1 : Int).toNat = 1 from rfl, Nat.reduceMul, Nat.reduceEqDiff, Go.Addr.add, ↓reduceIte] at hx256_2)
  have qi256 : (1 < t249.length) = True := eq_true (by omega)
  (try rw [show ((1 : Int)).toNat = 1 from rfl] at hx256_0)
  (try rw [show 1 * 3 = 3 from rfl] at hx256_0)
  (try rw [show ((1 : Int)).toNat = 1 from rfl] at hx256_1)
  (try rw [show 1 * 3 = 3 from rfl] at hx256_1)
  (try rw [show ((1 : Int)).toNat = 1 from rfl] at hx256_2)
  (try rw [show 1 * 3 = 3 from rfl] at hx256_2)
  have hn256_0 : ad256.block ≠ gb255 := Kd.own_blk (Kd.R_ne HO251.out BK255.out (by decide))
  have hn256_1 : ad256.block ≠ gb255 := Kd.own_blk (Kd.R_ne HO251.out BK255.out (by decide))
  have hn256_2 : ad256.block ≠ gb255 := Kd.own_blk (Kd.R_ne HO251.out BK255.out (by decide))
  replace hx256_0 := (cell_far (p := ⟨gb255, 0, none⟩) (by first | (rw [add_block]; exact hn256_0) | (show (Addr.add _ _).block ≠ _; rw [add_block]; exact hn256_0) | exact hn256_0) (.slice (some ad256) t249.length co7)).trans hx256_0
  replace hx256_1 := (cell_far (p := ⟨gb255, 0, none⟩) (by first | (rw [add_block]; exact hn256_0) | (show (Addr.add _ _).block ≠ _; rw [add_block]; exact hn256_0) | exact hn256_0) (.slice (some ad256) t249.length co7)).trans hx256_1
  replace hx256_2 := (cell_far (p := ⟨gb255, 0, none⟩) (by first | (rw [add_block]; exact hn256_0) | (show (Addr.add _ _).block ≠ _; rw [add_block]; exact hn256_0) | exact hn256_0) (.slice (some ad256) t249.length co7)).trans hx256_2
  replace hx256_0 := (cell_far (p := ⟨gb255, 1, none⟩) (by first | (rw [add_block]; exact hn256_1) | (show (Addr.add _ _).block ≠ _; rw [add_block]; exact hn256_1) | exact hn256_1) (.string t252)).trans hx256_0
  replace hx256_1 := (cell_far (p := ⟨gb255, 1, none⟩) (by first | (rw [add_block]; exact hn256_1) | (show (Addr.add _ _).block ≠ _; rw [add_block]; exact hn256_1) | exact hn256_1) (.string t252)).trans hx256_1
  replace hx256_2 := (cell_far (p := ⟨gb255, 1, none⟩) (by first | (rw [add_block]; exact hn256_1) | (show (Addr.add _ _).block ≠ _; rw [add_block]; exact hn256_1) | exact hn256_1) (.string t252)).trans hx256_2
  replace hx256_0 := (cell_far (p := ⟨gb255, 2, none⟩) (by first | (rw [add_block]; exact hn256_2) | (show (Addr.add _ _).block ≠ _; rw [add_block]; exact hn256_2) | exact hn256_2) (.bool t253)).trans hx256_0
  replace hx256_1 := (cell_far (p := ⟨gb255, 2, none⟩) (by first | (rw [add_block]; exact hn256_2) | (show (Addr.add _ _).block ≠ _; rw [add_block]; exact hn256_2) | exact hn256_2) (.bool t253)).trans hx256_1
  replace hx256_2 := (cell_far (p := ⟨gb255, 2, none⟩) (by first | (rw [add_block]; exact hn256_2) | (show (Addr.add _ _).block ≠ _; rw [add_block]; exact hn256_2) | exact hn256_2) (.bool t253)).trans hx256_2
  clear hn256_0
  clear hn256_1
  clear hn256_2
  replace p256 := eq_true p256
  replace q256 := eq_true q256
  have p257 : 0 ≤ (1 : Int) := (by omega)
  have q257 : 1 < (t249.length : Int) := od
  obtain ⟨ad257, e257, hx257_0, hx257_1, hx257_2⟩ := at_T41 (Kd.R_reads' HO251.out).2.2 1 p257 q257
  obtain rfl : ad256 = ad257 := (by injection e257)
  (try simp only [show (1 : Int).toNat = 1 from rfl, Nat.reduceMul, Nat.reduceEqDiff, Go.Addr.add, ↓reduceIte] at hx257_0)
  (try simp only [show (1 : Int).toNat = 1 from rfl, Nat.reduceMul, Nat.reduceEqDiff, Go.Addr.add, ↓reduceIte] at hx257_1)
  (try simp only [show (1 : Int).toNat = 1 from rfl, Nat.reduceMul, Nat.reduceEqDiff, Go.Addr.add, ↓reduceIte] at hx257_2)
  have qi257 : (1 < t249.length) = True := eq_true (by omega)
  (try rw [show ((1 : Int)).toNat = 1 from rfl] at hx257_0)
  (try rw [show 1 * 3 = 3 from rfl] at hx257_0)
  (try rw [show ((1 : Int)).toNat = 1 from rfl] at hx257_1)
  (try rw [show 1 * 3 = 3 from rfl] at hx257_1)
  (try rw [show ((1 : Int)).toNat = 1 from rfl] at hx257_2)
  (try rw [show 1 * 3 = 3 from rfl] at hx257_2)
  have hn257_0 : ad256.block ≠ gb255 := Kd.own_blk (Kd.R_ne HO251.out BK255.out (by decide))
  have hn257_1 : ad256.block ≠ gb255 := Kd.own_blk (Kd.R_ne HO251.out BK255.out (by decide))
  have hn257_2 : ad256.block ≠ gb255 := Kd.own_blk (Kd.R_ne HO251.out BK255.out (by decide))
  replace hx257_0 := (cell_far (p := ⟨gb255, 0, none⟩) (by first | (rw [add_block]; exact hn257_0) | (show (Addr.add _ _).block ≠ _; rw [add_block]; exact hn257_0) | exact hn257_0) (.slice (some ad256) t249.length co7)).trans hx257_0
  replace hx257_1 := (cell_far (p := ⟨gb255, 0, none⟩) (by first | (rw [add_block]; exact hn257_0) | (show (Addr.add _ _).block ≠ _; rw [add_block]; exact hn257_0) | exact hn257_0) (.slice (some ad256) t249.length co7)).trans hx257_1
  replace hx257_2 := (cell_far (p := ⟨gb255, 0, none⟩) (by first | (rw [add_block]; exact hn257_0) | (show (Addr.add _ _).block ≠ _; rw [add_block]; exact hn257_0) | exact hn257_0) (.slice (some ad256) t249.length co7)).trans hx257_2
  replace hx257_0 := (cell_far (p := ⟨gb255, 1, none⟩) (by first | (rw [add_block]; exact hn257_1) | (show (Addr.add _ _).block ≠ _; rw [add_block]; exact hn257_1) | exact hn257_1) (.string t252)).trans hx257_0
  replace hx257_1 := (cell_far (p := ⟨gb255, 1, none⟩) (by first | (rw [add_block]; exact hn257_1) | (show (Addr.add _ _).block ≠ _; rw [add_block]; exact hn257_1) | exact hn257_1) (.string t252)).trans hx257_1
  replace hx257_2 := (cell_far (p := ⟨gb255, 1, none⟩) (by first | (rw [add_block]; exact hn257_1) | (show (Addr.add _ _).block ≠ _; rw [add_block]; exact hn257_1) | exact hn257_1) (.string t252)).trans hx257_2
  replace hx257_0 := (cell_far (p := ⟨gb255, 2, none⟩) (by first | (rw [add_block]; exact hn257_2) | (show (Addr.add _ _).block ≠ _; rw [add_block]; exact hn257_2) | exact hn257_2) (.bool t253)).trans hx257_0
  replace hx257_1 := (cell_far (p := ⟨gb255, 2, none⟩) (by first | (rw [add_block]; exact hn257_2) | (show (Addr.add _ _).block ≠ _; rw [add_block]; exact hn257_2) | exact hn257_2) (.bool t253)).trans hx257_1
  replace hx257_2 := (cell_far (p := ⟨gb255, 2, none⟩) (by first | (rw [add_block]; exact hn257_2) | (show (Addr.add _ _).block ≠ _; rw [add_block]; exact hn257_2) | exact hn257_2) (.bool t253)).trans hx257_2
  clear hn257_0
  clear hn257_1
  clear hn257_2
  replace p257 := eq_true p257
  replace q257 := eq_true q257
  go_wp2_with (first | (go_at_call 28; (with_reducible refine (head_Message_Find.calls _ _ t249 t252 t253 (⟨#[97]⟩ : ByteArray) t258 _ ?side1 ?side2 A15.out).mono ?_); (case side1 => refine (Kd.R_reads' (e := 41) (base := w.heap.size) (ok := fun k_ => True) (n := t249.length) (c := co7) ?_).2.2; exact (by (with_reducible repeat (first | apply Kd.R_alloc | apply Kd.R_drewN | apply Kd.R_drew)); exact (Kd.R_mono (Kd.R_far (p := ⟨gb255, 2, none⟩) (Kd.R_far (p := ⟨gb255, 1, none⟩) (Kd.R_far (p := ⟨gb255, 0, none⟩) (Kd.R_types HO251.out BK255.out (by decide)) (fun _ hk => hk.2) (.slice (some ad256) t249.length co7)) (fun _ hk => hk.2) (.string t252)) (fun _ hk => hk.2) (.bool t253)) (fun _ h_ => h_.1)))); (case side2 => exact (Kd.R_reads' HO251.out).2.1); rintro e w22 ⟨v259, rfl, ho0, hb⟩; have n0_ := Aside0.mk (Kd.R_below (by (with_reducible repeat (first | apply Kd.R_alloc | apply Kd.R_drewN | apply Kd.R_drew)); exact (Kd.R_mono (Kd.R_far (p := ⟨gb255, 2, none⟩) (Kd.R_far (p := ⟨gb255, 1, none⟩) (Kd.R_far (p := ⟨gb255, 0, none⟩) (Kd.R_types HO251.out BK255.out (by decide)) (fun _ hk => hk.2) (.slice (some ad256) t249.length co7)) (fun _ hk => hk.2) (.string t252)) (fun _ hk => hk.2) (.bool t253)) (fun _ h_ => h_.1))) hb); have n1_ := Aside0.mk (Kd.R_lower ho0 (below_size bl)); have n2_ := Aside0.mk (blk_below (g := gb255) (o := .cells #[.slice (some ad256) t249.length co7, .string t252, .bool t253] 24 (0, 0)) (by (with_reducible repeat (first | refine blk_drewN ?_ _ | refine blk_drew ?_ | refine blk_alloc ?_ _)); refine blk_put (cs := #[.slice (some ad256) t249.length co7, .string t252, .bool false]) ?_ 2 _ rfl; (with_reducible repeat (first | refine blk_drewN ?_ _ | refine blk_drew ?_ | refine blk_alloc ?_ _)); refine blk_put (cs := #[.slice (some ad256) t249.length co7, .string (⟨#[]⟩ : ByteArray), .bool false]) ?_ 1 _ rfl; (with_reducible repeat (first | refine blk_drewN ?_ _ | refine blk_drew ?_ | refine blk_alloc ?_ _)); refine blk_put (cs := #[.slice none 0 0, .string (⟨#[]⟩ : ByteArray), .bool false]) ?_ 0 _ rfl; (with_reducible repeat (first | refine blk_drewN ?_ _ | refine blk_drew ?_ | refine blk_alloc ?_ _)); exact BK255.out) hb); have n3_ := Aside0.mk (below_step bl hb); clear HO251; clear BK255; clear HB; have HO251 := n0_; have HO260 := n1_; have BK255 := n2_; have HB := n3_; clear n0_ n1_ n2_ n3_; (try clear hb); (try clear hb2); (try clear hk); (try clear hi); (try clear ho0)) | ((with_reducible refine gate_dst (N := 86) rfl ?_); (try (refine gate_guard (by rfl) ?_; dsimp only)); refine Kd.R_lit Kd.string _ 9 ?hg (N := 86) ?hd (xs := ([(⟨#[49]⟩ : ByteArray), (⟨#[52]⟩ : ByteArray)] : List ByteArray)) (inner := [.string (⟨#[49]⟩ : ByteArray), .string (⟨#[52]⟩ : ByteArray)]) (ok := fun _ => True) (okp := fun _ => True) ?hr ?hp (fun _ hk => hk) trivial (Below.refl _ _) (Nat.le_refl _) (by simp) ?_; (case hd => rfl); (case hg => rfl); (case hr => first | (go_simp; done) | (go_simp; rfl)); (case hp => exact (Reps.one (show Kd.M Kd.string _ _ _ (⟨#[49]⟩ : ByteArray) [.string (⟨#[49]⟩ : ByteArray)] from rfl) (Reps.one (show Kd.M Kd.string _ _ _ (⟨#[52]⟩ : ByteArray) [.string (⟨#[52]⟩ : ByteArray)] from rfl) (Reps.none _ _)))); intro v262 w23 ho24 hb hg_ hnew_; clear hg_ hnew_; (first | rw [← Ny261.out] at ho24 | (simp only [Int.reduceToNat] at ho24; rw [← Ny261.out] at ho24)); have n0_ := Aside0.mk (Kd.R_below (kr HO251.out) hb); have n1_ := Aside0.mk (Kd.R_elder' (kr HO260.out) (Kd.R_base ho24) hb); have n2_ := Aside0.mk (Kd.R_lower (Kd.R_new' ho24 (Kd.R_lt (kr HO260.out))) (below_size bl)); have n3_ := Aside0.mk (kb BK255.out hb); have n4_ := Aside0.mk (below_step bl hb); clear HO251; clear HO260; clear BK255; clear HB; have HO251 := n0_; have HO260 := n1_; have HO263 := n2_; have BK255 := n3_; have HB := n4_; clear n0_ n1_ n2_ n3_ n4_; clear hb ho24; obtain ⟨Ao25, co25, eo25⟩ := Kd.R_slice HO260.out; subst eo25; obtain ⟨Ao26, co26, eo26⟩ := Kd.R_slice HO263.out; subst eo26) | (go_at_call 27; (with_reducible refine (slices_Equal_string_string.calls k _ _ t258 _ _ y261 true _ ?side1 ?side2 ?side3 ?side4 A16.out).mono ?_); (case side1 => repeat (first | exact (Kd.R_reads' HO260.out).2.2 | (with_reducible refine Kd.C_alloc ?_ _) | (with_reducible refine Kd.C_drewN ?_ _) | (with_reducible refine Kd.C_drew ?_))); (case side2 => exact (Kd.R_reads' HO260.out).2.1); (case side3 => repeat (first | exact (Kd.R_reads' HO263.out).2.2 | (with_reducible refine Kd.C_alloc ?_ _) | (with_reducible refine Kd.C_drewN ?_ _) | (with_reducible refine Kd.C_drew ?_))); (case side4 => exact (Kd.R_reads' HO263.out).2.1); rintro e w' ⟨rfl, ⟨nd, rfl⟩⟩; have hcz27_0 : w23.cell? ⟨gb255, 0, none⟩ = some (.slice (some ad256) t249.length co7) := (blk_cell BK255.out 0).trans rfl; have hcz27_1 : w23.cell? ⟨gb255, 1, none⟩ = some (.string t252) := (blk_cell BK255.out 1).trans rfl; have hcz27_2 : w23.cell? ⟨gb255, 2, none⟩ = some (.bool t253) := (blk_cell BK255.out 2).trans rfl; have hfz27_0 := blk_frozen BK255.out 0; have hfz27_1 := blk_frozen BK255.out 1; have hfz27_2 := blk_frozen BK255.out 2) | (go_at_call 29; (with_reducible refine (head_Message_Count.calls _ _ t249 t252 t253 (⟨#[66]⟩ : ByteArray) t265 _ ?side1 ?side2 A18.out).mono ?_); (case side1 => repeat (first | exact (Kd.R_reads' HO251.out).2.2 | (with_reducible refine Kd.C_alloc ?_ _) | (with_reducible refine Kd.C_drewN ?_ _) | (with_reducible refine Kd.C_drew ?_))); (case side2 => exact (Kd.R_reads' HO251.out).2.1); rintro e w28 ⟨rfl, hb⟩; have n0_ := Aside0.mk (Kd.R_below (kr HO251.out) hb); have n1_ := Aside0.mk (Kd.R_below (kr HO260.out) hb); have n2_ := Aside0.mk (Kd.R_below (kr HO263.out) hb); have n3_ := Aside0.mk (kb BK255.out hb); have n4_ := Aside0.mk (below_step bl hb); clear HO251; clear HO260; clear HO263; clear BK255; clear HB; have HO251 := n0_; have HO260 := n1_; have HO263 := n2_; have BK255 := n3_; have HB := n4_; clear n0_ n1_ n2_ n3_ n4_; (try clear hb); (try clear hb2); (try clear hk); (try clear hi); have hcz29_0 : w28.cell? ⟨gb255, 0, none⟩ = some (.slice (some ad256) t249.length co7) := (blk_cell BK255.out 0).trans rfl; have hcz29_1 : w28.cell? ⟨gb255, 1, none⟩ = some (.string t252) := (blk_cell BK255.out 1).trans rfl; have hcz29_2 : w28.cell? ⟨gb255, 2, none⟩ = some (.bool t253) := (blk_cell BK255.out 2).trans rfl; have hfz29_0 := blk_frozen BK255.out 0; have hfz29_1 := blk_frozen BK255.out 1; have hfz29_2 := blk_frozen BK255.out 2) | (go_at_call 29; (with_reducible refine (head_Message_Count.calls _ _ t249 t252 t253 (⟨#[99]⟩ : ByteArray) t266 _ ?side1 ?side2 A20.out).mono ?_); (case side1 => repeat (first | exact (Kd.R_reads' HO251.out).2.2 | (with_reducible refine Kd.C_alloc ?_ _) | (with_reducible refine Kd.C_drewN ?_ _) | (with_reducible refine Kd.C_drew ?_))); (case side2 => exact (Kd.R_reads' HO251.out).2.1); rintro e w30 ⟨rfl, hb⟩; have n0_ := Aside0.mk (Kd.R_below (kr HO251.out) hb); have n1_ := Aside0.mk (Kd.R_below (kr HO260.out) hb); have n2_ := Aside0.mk (Kd.R_below (kr HO263.out) hb); have n3_ := Aside0.mk (kb BK255.out hb); have n4_ := Aside0.mk (below_step bl hb); clear HO251; clear HO260; clear HO263; clear BK255; clear HB; have HO251 := n0_; have HO260 := n1_; have HO263 := n2_; have BK255 := n3_; have HB := n4_; clear n0_ n1_ n2_ n3_ n4_; (try clear hb); (try clear hb2); (try clear hk); (try clear hi)))
  go_meet
  case rel => exact ⟨_, ((t266 != 0)), (by first | rfl | (simp; done) | (simp [*]; done)), H', ⟨by first | omega | exact Nat.le_refl _⟩, ⟨by (with_reducible repeat (first | apply Kd.R_alloc | apply Kd.R_drewN | apply Kd.R_drew)); exact HO251.out⟩, ⟨by (with_reducible repeat (first | refine blk_drewN ?_ _ | refine blk_drew ?_ | refine blk_alloc ?_ _)); exact BK255.out⟩, ⟨by repeat (first | (with_reducible first | exact HB.out | apply below_alloc | apply pw_below_drewN | apply below_drew1 | refine below_set ?_ GE255.out) | exact HB.out)⟩⟩
 case rest => as_aux_lemma =>
  clear HC3
  try clear c1
  try clear p2
  try clear q2
  try clear hx2
  try clear qi2
  try clear c8
  try clear c9
  try clear c9b0
  try clear c9b1
  try clear c10
  try clear c10b0
  try clear c10b1
  try clear c11
  try clear c11b0
  try clear c11b1
  try clear c12
  try clear c12b0
  try clear c12b1
  try clear c13
  try clear c13b0
  try clear c13b1
  try clear c14
  try clear c14b0
  try clear c14b1
  try clear c17
  try clear c19
  try clear c19b0
  try clear c19b1
  try clear p25
  try clear q25
  try clear hx25
  try clear qi25
  try clear hcz21_0
  try clear hcz21_1
  try clear hcz21_2
  try clear hcz27_0
  try clear hcz27_1
  try clear hcz27_2
  try clear hcz29_0
  try clear hcz29_1
  try clear hcz29_2
  try clear hcz8_0
  try clear hcz8_1
  try clear hcz8_2
  try clear hfz21_0
  try clear hfz21_1
  try clear hfz21_2
  try clear hfz27_0
  try clear hfz27_1
  try clear hfz27_2
  try clear hfz29_0
  try clear hfz29_1
  try clear hfz29_2
  try clear hfz8_0
  try clear hfz8_1
  try clear hfz8_2
  try clear hx256_0
  try clear hx256_1
  try clear hx256_2
  try clear hx257_0
  try clear hx257_1
  try clear hx257_2
  try clear p256
  try clear p257
  try clear q256
  try clear q257
  obtain ⟨kq, x99_2, rfl, HA, HJ2, HO_256000, BK255, HB⟩ := hcut
  cases kq with
  | zero => exact absurd HA.out (by simp [postriderlaw07_HeadKnown.j0])
  | succ kj2 =>
   have H := HA.out
   clear HA
   simp only [postriderlaw07_HeadKnown.j0] at H
   by_cases c31 : x99_2 = true
   rotate_left
   ·replace c31 := Bool.eq_false_iff.mpr c31
    subst c31
    have H1 : ((strings_Repeat.f (⟨#[120]⟩ : ByteArray) 70).bind fun t267 => (if t267.size + 2 ≤ 9223372036854775807 then (if (t267 ++ (⟨#[44, 32]⟩ : ByteArray)).size + t267.size ≤ 9223372036854775807 then (if ((t267 ++ (⟨#[44, 32]⟩ : ByteArray)) ++ t267).size + 6 ≤ 9223372036854775807 then ((head_Lay.f kj2 (⟨#[84, 111]⟩ : ByteArray) (((t267 ++ (⟨#[44, 32]⟩ : ByteArray)) ++ t267) ++ (⟨#[44, 32, 121, 44, 32, 122]⟩ : ByteArray))).bind fun bt268 => (if 2 + t267.size ≤ 9223372036854775807 then (if ((⟨#[44, 32]⟩ : ByteArray) ++ t267).size + t267.size ≤ 9223372036854775807 then ((head_Lay.f kj2 (⟨#[84, 111]⟩ : ByteArray) (((⟨#[44, 32]⟩ : ByteArray) ++ t267) ++ t267)).bind fun bt273 => ((strings_Repeat.f (⟨#[121]⟩ : ByteArray) 74).bind fun t278 => (if t278.size + 3 ≤ 9223372036854775807 then ((head_Lay.f kj2 (⟨#[84, 111]⟩ : ByteArray) (t278 ++ (⟨#[44, 32, 122]⟩ : ByteArray))).bind fun bt279 => ((strings_Repeat.f (⟨#[121]⟩ : ByteArray) 73).bind fun t284 => (if t284.size + 3 ≤ 9223372036854775807 then ((head_Lay.f kj2 (⟨#[84, 111]⟩ : ByteArray) (t284 ++ (⟨#[44, 32, 122]⟩ : ByteArray))).bind fun bt285 => ((head_Lay.f kj2 (⟨#[84, 32, 111]⟩ : ByteArray) (⟨#[]⟩ : ByteArray)).bind fun bt290 => ((head_Lay.f kj2 (⟨#[]⟩ : ByteArray) (⟨#[120]⟩ : ByteArray)).bind fun bt295 => ((head_Lay.f kj2 (⟨#[120]⟩ : ByteArray) (⟨#[97, 10, 98]⟩ : ByteArray)).bind fun bt300 => ((strings_Repeat.f (⟨#[121]⟩ : ByteArray) 8192).bind fun t305 => ((head_Message_Ahead.f kj2 t249 t252 t253 (⟨#[120]⟩ : ByteArray) t305).bind fun bt306 => ((head_Message_Put.f kj2 t249 t252 t253 3 (⟨#[]⟩ : ByteArray)).bind fun bt313 => ((head_Message_Put.f kj2 t249 t252 t253 (-1) (⟨#[]⟩ : ByteArray)).bind fun bt320 => (if bt268.2.2.2 = 0 then (if 4 + t267.size ≤ 9223372036854775807 then (if ((⟨#[84, 111, 58, 32]⟩ : ByteArray) ++ t267).size + 4 ≤ 9223372036854775807 then (if (((⟨#[84, 111, 58, 32]⟩ : ByteArray) ++ t267) ++ (⟨#[44, 13, 10, 32]⟩ : ByteArray)).size + t267.size ≤ 9223372036854775807 then (if ((((⟨#[84, 111, 58, 32]⟩ : ByteArray) ++ t267) ++ (⟨#[44, 13, 10, 32]⟩ : ByteArray)) ++ t267).size + 8 ≤ 9223372036854775807 then (if bt268.2.2.1.toList = (((((⟨#[84, 111, 58, 32]⟩ : ByteArray) ++ t267) ++ (⟨#[44, 13, 10, 32]⟩ : ByteArray)) ++ t267) ++ (⟨#[44, 32, 121, 44, 32, 122, 13, 10]⟩ : ByteArray)).toList then (if bt273.2.2.2 = 0 then (if 8 + t267.size ≤ 9223372036854775807 then (if ((⟨#[84, 111, 58, 32, 44, 13, 10, 32]⟩ : ByteArray) ++ t267).size + t267.size ≤ 9223372036854775807 then (if (((⟨#[84, 111, 58, 32, 44, 13, 10, 32]⟩ : ByteArray) ++ t267) ++ t267).size + 2 ≤ 9223372036854775807 then (if bt273.2.2.1.toList = ((((⟨#[84, 111, 58, 32, 44, 13, 10, 32]⟩ : ByteArray) ++ t267) ++ t267) ++ (⟨#[13, 10]⟩ : ByteArray)).toList then (if bt279.2.2.2 = 0 then ((strings_Repeat.f (⟨#[121]⟩ : ByteArray) 74).bind fun t327 => (if 4 + t327.size ≤ 9223372036854775807 then (if ((⟨#[84, 111, 58, 32]⟩ : ByteArray) ++ t327).size + 7 ≤ 9223372036854775807 then (if bt279.2.2.1.toList = (((⟨#[84, 111, 58, 32]⟩ : ByteArray) ++ t327) ++ (⟨#[44, 13, 10, 32, 122, 13, 10]⟩ : ByteArray)).toList then (if bt285.2.2.2 = 0 then ((strings_Repeat.f (⟨#[121]⟩ : ByteArray) 73).bind fun t328 => (if 4 + t328.size ≤ 9223372036854775807 then (if ((⟨#[84, 111, 58, 32]⟩ : ByteArray) ++ t328).size + 7 ≤ 9223372036854775807 then (if bt285.2.2.1.toList = (((⟨#[84, 111, 58, 32]⟩ : ByteArray) ++ t328) ++ (⟨#[44, 13, 10, 32, 122, 13, 10]⟩ : ByteArray)).toList then (if bt290.2.2.2 = 5 then (if bt295.2.2.2 = 5 then (if bt300.2.2.2 = 5 then (if bt306.2.2.2 = 3 then (if bt313.2.2.2 = 1 then (if bt320.2.2.2 = 1 then ((postriderlaw07_wakes.f kj2).bind fun t329 => (some t329)) else (some false)) else (some false)) else (some false)) else (some false)) else (some false)) else (some false)) else (some false)) else (none)) else (none))) else (some false)) else (some false)) else (none)) else (none))) else (some false)) else (some false)) else (none)) else (none)) else (none)) else (some false)) else (some false)) else (none)) else (none)) else (none)) else (none)) else (some false)))))))))) else (none)))) else (none)))) else (none)) else (none))) else (none)) else (none)) else (none))) = some r := by rw [if_neg (show ¬ (false = true) by decide)] at H; exact H
    clear H
    have H := H1
    clear H1
    replace H := Option.bind_eq_some_iff.mp H
    obtain ⟨t267, A320, H⟩ := H
    replace H : (if t267.size + 2 ≤ 9223372036854775807 then (if (t267 ++ (⟨#[44, 32]⟩ : ByteArray)).size + t267.size ≤ 9223372036854775807 then (if ((t267 ++ (⟨#[44, 32]⟩ : ByteArray)) ++ t267).size + 6 ≤ 9223372036854775807 then ((head_Lay.f kj2 (⟨#[84, 111]⟩ : ByteArray) (((t267 ++ (⟨#[44, 32]⟩ : ByteArray)) ++ t267) ++ (⟨#[44, 32, 121, 44, 32, 122]⟩ : ByteArray))).bind fun bt268 => (if 2 + t267.size ≤ 9223372036854775807 then (if ((⟨#[44, 32]⟩ : ByteArray) ++ t267).size + t267.size ≤ 9223372036854775807 then ((head_Lay.f kj2 (⟨#[84, 111]⟩ : ByteArray) (((⟨#[44, 32]⟩ : ByteArray) ++ t267) ++ t267)).bind fun bt273 => ((strings_Repeat.f (⟨#[121]⟩ : ByteArray) 74).bind fun t278 => (if t278.size + 3 ≤ 9223372036854775807 then ((head_Lay.f kj2 (⟨#[84, 111]⟩ : ByteArray) (t278 ++ (⟨#[44, 32, 122]⟩ : ByteArray))).bind fun bt279 => ((strings_Repeat.f (⟨#[121]⟩ : ByteArray) 73).bind fun t284 => (if t284.size + 3 ≤ 9223372036854775807 then ((head_Lay.f kj2 (⟨#[84, 111]⟩ : ByteArray) (t284 ++ (⟨#[44, 32, 122]⟩ : ByteArray))).bind fun bt285 => ((head_Lay.f kj2 (⟨#[84, 32, 111]⟩ : ByteArray) (⟨#[]⟩ : ByteArray)).bind fun bt290 => ((head_Lay.f kj2 (⟨#[]⟩ : ByteArray) (⟨#[120]⟩ : ByteArray)).bind fun bt295 => ((head_Lay.f kj2 (⟨#[120]⟩ : ByteArray) (⟨#[97, 10, 98]⟩ : ByteArray)).bind fun bt300 => ((strings_Repeat.f (⟨#[121]⟩ : ByteArray) 8192).bind fun t305 => ((head_Message_Ahead.f kj2 t249 t252 t253 (⟨#[120]⟩ : ByteArray) t305).bind fun bt306 => ((head_Message_Put.f kj2 t249 t252 t253 3 (⟨#[]⟩ : ByteArray)).bind fun bt313 => ((head_Message_Put.f kj2 t249 t252 t253 (-1) (⟨#[]⟩ : ByteArray)).bind fun bt320 => (if bt268.2.2.2 = 0 then (if 4 + t267.size ≤ 9223372036854775807 then (if ((⟨#[84, 111, 58, 32]⟩ : ByteArray) ++ t267).size + 4 ≤ 9223372036854775807 then (if (((⟨#[84, 111, 58, 32]⟩ : ByteArray) ++ t267) ++ (⟨#[44, 13, 10, 32]⟩ : ByteArray)).size + t267.size ≤ 9223372036854775807 then (if ((((⟨#[84, 111, 58, 32]⟩ : ByteArray) ++ t267) ++ (⟨#[44, 13, 10, 32]⟩ : ByteArray)) ++ t267).size + 8 ≤ 9223372036854775807 then (if bt268.2.2.1.toList = (((((⟨#[84, 111, 58, 32]⟩ : ByteArray) ++ t267) ++ (⟨#[44, 13, 10, 32]⟩ : ByteArray)) ++ t267) ++ (⟨#[44, 32, 121, 44, 32, 122, 13, 10]⟩ : ByteArray)).toList then (if bt273.2.2.2 = 0 then (if 8 + t267.size ≤ 9223372036854775807 then (if ((⟨#[84, 111, 58, 32, 44, 13, 10, 32]⟩ : ByteArray) ++ t267).size + t267.size ≤ 9223372036854775807 then (if (((⟨#[84, 111, 58, 32, 44, 13, 10, 32]⟩ : ByteArray) ++ t267) ++ t267).size + 2 ≤ 9223372036854775807 then (if bt273.2.2.1.toList = ((((⟨#[84, 111, 58, 32, 44, 13, 10, 32]⟩ : ByteArray) ++ t267) ++ t267) ++ (⟨#[13, 10]⟩ : ByteArray)).toList then (if bt279.2.2.2 = 0 then ((strings_Repeat.f (⟨#[121]⟩ : ByteArray) 74).bind fun t327 => (if 4 + t327.size ≤ 9223372036854775807 then (if ((⟨#[84, 111, 58, 32]⟩ : ByteArray) ++ t327).size + 7 ≤ 9223372036854775807 then (if bt279.2.2.1.toList = (((⟨#[84, 111, 58, 32]⟩ : ByteArray) ++ t327) ++ (⟨#[44, 13, 10, 32, 122, 13, 10]⟩ : ByteArray)).toList then (if bt285.2.2.2 = 0 then ((strings_Repeat.f (⟨#[121]⟩ : ByteArray) 73).bind fun t328 => (if 4 + t328.size ≤ 9223372036854775807 then (if ((⟨#[84, 111, 58, 32]⟩ : ByteArray) ++ t328).size + 7 ≤ 9223372036854775807 then (if bt285.2.2.1.toList = (((⟨#[84, 111, 58, 32]⟩ : ByteArray) ++ t328) ++ (⟨#[44, 13, 10, 32, 122, 13, 10]⟩ : ByteArray)).toList then (if bt290.2.2.2 = 5 then (if bt295.2.2.2 = 5 then (if bt300.2.2.2 = 5 then (if bt306.2.2.2 = 3 then (if bt313.2.2.2 = 1 then (if bt320.2.2.2 = 1 then ((postriderlaw07_wakes.f kj2).bind fun t329 => (some t329)) else (some false)) else (some false)) else (some false)) else (some false)) else (some false)) else (some false)) else (some false)) else (none)) else (none))) else (some false)) else (some false)) else (none)) else (none))) else (some false)) else (some false)) else (none)) else (none)) else (none)) else (some false)) else (some false)) else (none)) else (none)) else (none)) else (none)) else (some false)))))))))) else (none)))) else (none)))) else (none)) else (none))) else (none)) else (none)) else (none)) = some r := H
    have A32 := Aside0.mk A320
    clear A320
    by_cases c33 : t267.size + 2 ≤ 9223372036854775807
    rotate_left
    ·rw [if_neg c33] at H
     exact absurd H (by simp)
    rw [if_pos c33] at H
    have c33b0 := eq_true c33
    have c33b1 : decide (t267.size + 2 ≤ 9223372036854775807) = true := decide_eq_true c33
    try have c33b2 : (9223372036854775807 < t267.size + 2) = False := eq_false (Nat.not_lt.2 c33)
    by_cases c34 : (t267 ++ (⟨#[44, 32]⟩ : ByteArray)).size + t267.size ≤ 9223372036854775807
    rotate_left
    ·rw [if_neg c34] at H
     exact absurd H (by simp)
    rw [if_pos c34] at H
    have c34b0 := eq_true c34
    have c34b1 : decide ((t267 ++ (⟨#[44, 32]⟩ : ByteArray)).size + t267.size ≤ 9223372036854775807) = true := decide_eq_true c34
    try have c34b2 : (9223372036854775807 < (t267 ++ (⟨#[44, 32]⟩ : ByteArray)).size + t267.size) = False := eq_false (Nat.not_lt.2 c34)
    try (have c34b2y := c34b2; rw [ByteArray.size_append] at c34b2y)
    try have c34b2z : (9223372036854775807 < t267.size + 2 + t267.size) = False := eq_false (fun h_ => by have g_ := c34; simp only [ByteArray.size_append, show (⟨#[44, 32]⟩ : ByteArray).size = 2 from rfl] at g_; omega)
    by_cases c35 : ((t267 ++ (⟨#[44, 32]⟩ : ByteArray)) ++ t267).size + 6 ≤ 9223372036854775807
    rotate_left
    ·rw [if_neg c35] at H
     exact absurd H (by simp)
    rw [if_pos c35] at H
    have c35b0 := eq_true c35
    have c35b1 : decide (((t267 ++ (⟨#[44, 32]⟩ : ByteArray)) ++ t267).size + 6 ≤ 9223372036854775807) = true := decide_eq_true c35
    try have c35b2 : (9223372036854775807 < ((t267 ++ (⟨#[44, 32]⟩ : ByteArray)) ++ t267).size + 6) = False := eq_false (Nat.not_lt.2 c35)
    try (have c35b2y := c35b2; rw [ByteArray.size_append] at c35b2y)
    try have c35b2z : (9223372036854775807 < t267.size + 2 + t267.size + 6) = False := eq_false (fun h_ => by have g_ := c35; simp only [ByteArray.size_append, show (⟨#[44, 32]⟩ : ByteArray).size = 2 from rfl] at g_; omega)
    replace H := Option.bind_eq_some_iff.mp H
    obtain ⟨⟨t268, t269, t270, t271⟩, A360, H⟩ := H
    replace H : (if 2 + t267.size ≤ 9223372036854775807 then (if ((⟨#[44, 32]⟩ : ByteArray) ++ t267).size + t267.size ≤ 9223372036854775807 then ((head_Lay.f kj2 (⟨#[84, 111]⟩ : ByteArray) (((⟨#[44, 32]⟩ : ByteArray) ++ t267) ++ t267)).bind fun bt273 => ((strings_Repeat.f (⟨#[121]⟩ : ByteArray) 74).bind fun t278 => (if t278.size + 3 ≤ 9223372036854775807 then ((head_Lay.f kj2 (⟨#[84, 111]⟩ : ByteArray) (t278 ++ (⟨#[44, 32, 122]⟩ : ByteArray))).bind fun bt279 => ((strings_Repeat.f (⟨#[121]⟩ : ByteArray) 73).bind fun t284 => (if t284.size + 3 ≤ 9223372036854775807 then ((head_Lay.f kj2 (⟨#[84, 111]⟩ : ByteArray) (t284 ++ (⟨#[44, 32, 122]⟩ : ByteArray))).bind fun bt285 => ((head_Lay.f kj2 (⟨#[84, 32, 111]⟩ : ByteArray) (⟨#[]⟩ : ByteArray)).bind fun bt290 => ((head_Lay.f kj2 (⟨#[]⟩ : ByteArray) (⟨#[120]⟩ : ByteArray)).bind fun bt295 => ((head_Lay.f kj2 (⟨#[120]⟩ : ByteArray) (⟨#[97, 10, 98]⟩ : ByteArray)).bind fun bt300 => ((strings_Repeat.f (⟨#[121]⟩ : ByteArray) 8192).bind fun t305 => ((head_Message_Ahead.f kj2 t249 t252 t253 (⟨#[120]⟩ : ByteArray) t305).bind fun bt306 => ((head_Message_Put.f kj2 t249 t252 t253 3 (⟨#[]⟩ : ByteArray)).bind fun bt313 => ((head_Message_Put.f kj2 t249 t252 t253 (-1) (⟨#[]⟩ : ByteArray)).bind fun bt320 => (if t271 = 0 then (if 4 + t267.size ≤ 9223372036854775807 then (if ((⟨#[84, 111, 58, 32]⟩ : ByteArray) ++ t267).size + 4 ≤ 9223372036854775807 then (if (((⟨#[84, 111, 58, 32]⟩ : ByteArray) ++ t267) ++ (⟨#[44, 13, 10, 32]⟩ : ByteArray)).size + t267.size ≤ 9223372036854775807 then (if ((((⟨#[84, 111, 58, 32]⟩ : ByteArray) ++ t267) ++ (⟨#[44, 13, 10, 32]⟩ : ByteArray)) ++ t267).size + 8 ≤ 9223372036854775807 then (if t270.toList = (((((⟨#[84, 111, 58, 32]⟩ : ByteArray) ++ t267) ++ (⟨#[44, 13, 10, 32]⟩ : ByteArray)) ++ t267) ++ (⟨#[44, 32, 121, 44, 32, 122, 13, 10]⟩ : ByteArray)).toList then (if bt273.2.2.2 = 0 then (if 8 + t267.size ≤ 9223372036854775807 then (if ((⟨#[84, 111, 58, 32, 44, 13, 10, 32]⟩ : ByteArray) ++ t267).size + t267.size ≤ 9223372036854775807 then (if (((⟨#[84, 111, 58, 32, 44, 13, 10, 32]⟩ : ByteArray) ++ t267) ++ t267).size + 2 ≤ 9223372036854775807 then (if bt273.2.2.1.toList = ((((⟨#[84, 111, 58, 32, 44, 13, 10, 32]⟩ : ByteArray) ++ t267) ++ t267) ++ (⟨#[13, 10]⟩ : ByteArray)).toList then (if bt279.2.2.2 = 0 then ((strings_Repeat.f (⟨#[121]⟩ : ByteArray) 74).bind fun t327 => (if 4 + t327.size ≤ 9223372036854775807 then (if ((⟨#[84, 111, 58, 32]⟩ : ByteArray) ++ t327).size + 7 ≤ 9223372036854775807 then (if bt279.2.2.1.toList = (((⟨#[84, 111, 58, 32]⟩ : ByteArray) ++ t327) ++ (⟨#[44, 13, 10, 32, 122, 13, 10]⟩ : ByteArray)).toList then (if bt285.2.2.2 = 0 then ((strings_Repeat.f (⟨#[121]⟩ : ByteArray) 73).bind fun t328 => (if 4 + t328.size ≤ 9223372036854775807 then (if ((⟨#[84, 111, 58, 32]⟩ : ByteArray) ++ t328).size + 7 ≤ 9223372036854775807 then (if bt285.2.2.1.toList = (((⟨#[84, 111, 58, 32]⟩ : ByteArray) ++ t328) ++ (⟨#[44, 13, 10, 32, 122, 13, 10]⟩ : ByteArray)).toList then (if bt290.2.2.2 = 5 then (if bt295.2.2.2 = 5 then (if bt300.2.2.2 = 5 then (if bt306.2.2.2 = 3 then (if bt313.2.2.2 = 1 then (if bt320.2.2.2 = 1 then ((postriderlaw07_wakes.f kj2).bind fun t329 => (some t329)) else (some false)) else (some false)) else (some false)) else (some false)) else (some false)) else (some false)) else (some false)) else (none)) else (none))) else (some false)) else (some false)) else (none)) else (none))) else (some false)) else (some false)) else (none)) else (none)) else (none)) else (some false)) else (some false)) else (none)) else (none)) else (none)) else (none)) else (some false)))))))))) else (none)))) else (none)))) else (none)) else (none)) = some r := H
    have A36 := Aside0.mk A360
    clear A360
    by_cases c37 : 2 + t267.size ≤ 9223372036854775807
    rotate_left
    ·rw [if_neg c37] at H
     exact absurd H (by simp)
    rw [if_pos c37] at H
    have c37b0 := eq_true c37
    have c37b1 : decide (2 + t267.size ≤ 9223372036854775807) = true := decide_eq_true c37
    try have c37b2 : (9223372036854775807 < 2 + t267.size) = False := eq_false (Nat.not_lt.2 c37)
    by_cases c38 : ((⟨#[44, 32]⟩ : ByteArray) ++ t267).size + t267.size ≤ 9223372036854775807
    rotate_left
    ·rw [if_neg c38] at H
     exact absurd H (by simp)
    rw [if_pos c38] at H
    have c38b0 := eq_true c38
    have c38b1 : decide (((⟨#[44, 32]⟩ : ByteArray) ++ t267).size + t267.size ≤ 9223372036854775807) = true := decide_eq_true c38
    try have c38b2 : (9223372036854775807 < ((⟨#[44, 32]⟩ : ByteArray) ++ t267).size + t267.size) = False := eq_false (Nat.not_lt.2 c38)
    try (have c38b2y := c38b2; rw [ByteArray.size_append] at c38b2y)
    try have c38b2z : (9223372036854775807 < 2 + t267.size + t267.size) = False := eq_false (fun h_ => by have g_ := c38; simp only [ByteArray.size_append, show (⟨#[44, 32]⟩ : ByteArray).size = 2 from rfl] at g_; omega)
    replace H := Option.bind_eq_some_iff.mp H
    obtain ⟨⟨t273, t274, t275, t276⟩, A390, H⟩ := H
    replace H : ((strings_Repeat.f (⟨#[121]⟩ : ByteArray) 74).bind fun t278 => (if t278.size + 3 ≤ 9223372036854775807 then ((head_Lay.f kj2 (⟨#[84, 111]⟩ : ByteArray) (t278 ++ (⟨#[44, 32, 122]⟩ : ByteArray))).bind fun bt279 => ((strings_Repeat.f (⟨#[121]⟩ : ByteArray) 73).bind fun t284 => (if t284.size + 3 ≤ 9223372036854775807 then ((head_Lay.f kj2 (⟨#[84, 111]⟩ : ByteArray) (t284 ++ (⟨#[44, 32, 122]⟩ : ByteArray))).bind fun bt285 => ((head_Lay.f kj2 (⟨#[84, 32, 111]⟩ : ByteArray) (⟨#[]⟩ : ByteArray)).bind fun bt290 => ((head_Lay.f kj2 (⟨#[]⟩ : ByteArray) (⟨#[120]⟩ : ByteArray)).bind fun bt295 => ((head_Lay.f kj2 (⟨#[120]⟩ : ByteArray) (⟨#[97, 10, 98]⟩ : ByteArray)).bind fun bt300 => ((strings_Repeat.f (⟨#[121]⟩ : ByteArray) 8192).bind fun t305 => ((head_Message_Ahead.f kj2 t249 t252 t253 (⟨#[120]⟩ : ByteArray) t305).bind fun bt306 => ((head_Message_Put.f kj2 t249 t252 t253 3 (⟨#[]⟩ : ByteArray)).bind fun bt313 => ((head_Message_Put.f kj2 t249 t252 t253 (-1) (⟨#[]⟩ : ByteArray)).bind fun bt320 => (if t271 = 0 then (if 4 + t267.size ≤ 9223372036854775807 then (if ((⟨#[84, 111, 58, 32]⟩ : ByteArray) ++ t267).size + 4 ≤ 9223372036854775807 then (if (((⟨#[84, 111, 58, 32]⟩ : ByteArray) ++ t267) ++ (⟨#[44, 13, 10, 32]⟩ : ByteArray)).size + t267.size ≤ 9223372036854775807 then (if ((((⟨#[84, 111, 58, 32]⟩ : ByteArray) ++ t267) ++ (⟨#[44, 13, 10, 32]⟩ : ByteArray)) ++ t267).size + 8 ≤ 9223372036854775807 then (if t270.toList = (((((⟨#[84, 111, 58, 32]⟩ : ByteArray) ++ t267) ++ (⟨#[44, 13, 10, 32]⟩ : ByteArray)) ++ t267) ++ (⟨#[44, 32, 121, 44, 32, 122, 13, 10]⟩ : ByteArray)).toList then (if t276 = 0 then (if 8 + t267.size ≤ 9223372036854775807 then (if ((⟨#[84, 111, 58, 32, 44, 13, 10, 32]⟩ : ByteArray) ++ t267).size + t267.size ≤ 9223372036854775807 then (if (((⟨#[84, 111, 58, 32, 44, 13, 10, 32]⟩ : ByteArray) ++ t267) ++ t267).size + 2 ≤ 9223372036854775807 then (if t275.toList = ((((⟨#[84, 111, 58, 32, 44, 13, 10, 32]⟩ : ByteArray) ++ t267) ++ t267) ++ (⟨#[13, 10]⟩ : ByteArray)).toList then (if bt279.2.2.2 = 0 then ((strings_Repeat.f (⟨#[121]⟩ : ByteArray) 74).bind fun t327 => (if 4 + t327.size ≤ 9223372036854775807 then (if ((⟨#[84, 111, 58, 32]⟩ : ByteArray) ++ t327).size + 7 ≤ 9223372036854775807 then (if bt279.2.2.1.toList = (((⟨#[84, 111, 58, 32]⟩ : ByteArray) ++ t327) ++ (⟨#[44, 13, 10, 32, 122, 13, 10]⟩ : ByteArray)).toList then (if bt285.2.2.2 = 0 then ((strings_Repeat.f (⟨#[121]⟩ : ByteArray) 73).bind fun t328 => (if 4 + t328.size ≤ 9223372036854775807 then (if ((⟨#[84, 111, 58, 32]⟩ : ByteArray) ++ t328).size + 7 ≤ 9223372036854775807 then (if bt285.2.2.1.toList = (((⟨#[84, 111, 58, 32]⟩ : ByteArray) ++ t328) ++ (⟨#[44, 13, 10, 32, 122, 13, 10]⟩ : ByteArray)).toList then (if bt290.2.2.2 = 5 then (if bt295.2.2.2 = 5 then (if bt300.2.2.2 = 5 then (if bt306.2.2.2 = 3 then (if bt313.2.2.2 = 1 then (if bt320.2.2.2 = 1 then ((postriderlaw07_wakes.f kj2).bind fun t329 => (some t329)) else (some false)) else (some false)) else (some false)) else (some false)) else (some false)) else (some false)) else (some false)) else (none)) else (none))) else (some false)) else (some false)) else (none)) else (none))) else (some false)) else (some false)) else (none)) else (none)) else (none)) else (some false)) else (some false)) else (none)) else (none)) else (none)) else (none)) else (some false)))))))))) else (none)))) else (none))) = some r := H
    have A39 := Aside0.mk A390
    clear A390
    replace H := Option.bind_eq_some_iff.mp H
    obtain ⟨t278, A400, H⟩ := H
    replace H : (if t278.size + 3 ≤ 9223372036854775807 then ((head_Lay.f kj2 (⟨#[84, 111]⟩ : ByteArray) (t278 ++ (⟨#[44, 32, 122]⟩ : ByteArray))).bind fun bt279 => ((strings_Repeat.f (⟨#[121]⟩ : ByteArray) 73).bind fun t284 => (if t284.size + 3 ≤ 9223372036854775807 then ((head_Lay.f kj2 (⟨#[84, 111]⟩ : ByteArray) (t284 ++ (⟨#[44, 32, 122]⟩ : ByteArray))).bind fun bt285 => ((head_Lay.f kj2 (⟨#[84, 32, 111]⟩ : ByteArray) (⟨#[]⟩ : ByteArray)).bind fun bt290 => ((head_Lay.f kj2 (⟨#[]⟩ : ByteArray) (⟨#[120]⟩ : ByteArray)).bind fun bt295 => ((head_Lay.f kj2 (⟨#[120]⟩ : ByteArray) (⟨#[97, 10, 98]⟩ : ByteArray)).bind fun bt300 => ((strings_Repeat.f (⟨#[121]⟩ : ByteArray) 8192).bind fun t305 => ((head_Message_Ahead.f kj2 t249 t252 t253 (⟨#[120]⟩ : ByteArray) t305).bind fun bt306 => ((head_Message_Put.f kj2 t249 t252 t253 3 (⟨#[]⟩ : ByteArray)).bind fun bt313 => ((head_Message_Put.f kj2 t249 t252 t253 (-1) (⟨#[]⟩ : ByteArray)).bind fun bt320 => (if t271 = 0 then (if 4 + t267.size ≤ 9223372036854775807 then (if ((⟨#[84, 111, 58, 32]⟩ : ByteArray) ++ t267).size + 4 ≤ 9223372036854775807 then (if (((⟨#[84, 111, 58, 32]⟩ : ByteArray) ++ t267) ++ (⟨#[44, 13, 10, 32]⟩ : ByteArray)).size + t267.size ≤ 9223372036854775807 then (if ((((⟨#[84, 111, 58, 32]⟩ : ByteArray) ++ t267) ++ (⟨#[44, 13, 10, 32]⟩ : ByteArray)) ++ t267).size + 8 ≤ 9223372036854775807 then (if t270.toList = (((((⟨#[84, 111, 58, 32]⟩ : ByteArray) ++ t267) ++ (⟨#[44, 13, 10, 32]⟩ : ByteArray)) ++ t267) ++ (⟨#[44, 32, 121, 44, 32, 122, 13, 10]⟩ : ByteArray)).toList then (if t276 = 0 then (if 8 + t267.size ≤ 9223372036854775807 then (if ((⟨#[84, 111, 58, 32, 44, 13, 10, 32]⟩ : ByteArray) ++ t267).size + t267.size ≤ 9223372036854775807 then (if (((⟨#[84, 111, 58, 32, 44, 13, 10, 32]⟩ : ByteArray) ++ t267) ++ t267).size + 2 ≤ 9223372036854775807 then (if t275.toList = ((((⟨#[84, 111, 58, 32, 44, 13, 10, 32]⟩ : ByteArray) ++ t267) ++ t267) ++ (⟨#[13, 10]⟩ : ByteArray)).toList then (if bt279.2.2.2 = 0 then ((strings_Repeat.f (⟨#[121]⟩ : ByteArray) 74).bind fun t327 => (if 4 + t327.size ≤ 9223372036854775807 then (if ((⟨#[84, 111, 58, 32]⟩ : ByteArray) ++ t327).size + 7 ≤ 9223372036854775807 then (if bt279.2.2.1.toList = (((⟨#[84, 111, 58, 32]⟩ : ByteArray) ++ t327) ++ (⟨#[44, 13, 10, 32, 122, 13, 10]⟩ : ByteArray)).toList then (if bt285.2.2.2 = 0 then ((strings_Repeat.f (⟨#[121]⟩ : ByteArray) 73).bind fun t328 => (if 4 + t328.size ≤ 9223372036854775807 then (if ((⟨#[84, 111, 58, 32]⟩ : ByteArray) ++ t328).size + 7 ≤ 9223372036854775807 then (if bt285.2.2.1.toList = (((⟨#[84, 111, 58, 32]⟩ : ByteArray) ++ t328) ++ (⟨#[44, 13, 10, 32, 122, 13, 10]⟩ : ByteArray)).toList then (if bt290.2.2.2 = 5 then (if bt295.2.2.2 = 5 then (if bt300.2.2.2 = 5 then (if bt306.2.2.2 = 3 then (if bt313.2.2.2 = 1 then (if bt320.2.2.2 = 1 then ((postriderlaw07_wakes.f kj2).bind fun t329 => (some t329)) else (some false)) else (some false)) else (some false)) else (some false)) else (some false)) else (some false)) else (some false)) else (none)) else (none))) else (some false)) else (some false)) else (none)) else (none))) else (some false)) else (some false)) else (none)) else (none)) else (none)) else (some false)) else (some false)) else (none)) else (none)) else (none)) else (none)) else (some false)))))))))) else (none)))) else (none)) = some r := H
    have A40 := Aside0.mk A400
    clear A400
    by_cases c41 : t278.size + 3 ≤ 9223372036854775807
    rotate_left
    ·rw [if_neg c41] at H
     exact absurd H (by simp)
    rw [if_pos c41] at H
    have c41b0 := eq_true c41
    have c41b1 : decide (t278.size + 3 ≤ 9223372036854775807) = true := decide_eq_true c41
    try have c41b2 : (9223372036854775807 < t278.size + 3) = False := eq_false (Nat.not_lt.2 c41)
    replace H := Option.bind_eq_some_iff.mp H
    obtain ⟨⟨t279, t280, t281, t282⟩, A420, H⟩ := H
    replace H : ((strings_Repeat.f (⟨#[121]⟩ : ByteArray) 73).bind fun t284 => (if t284.size + 3 ≤ 9223372036854775807 then ((head_Lay.f kj2 (⟨#[84, 111]⟩ : ByteArray) (t284 ++ (⟨#[44, 32, 122]⟩ : ByteArray))).bind fun bt285 => ((head_Lay.f kj2 (⟨#[84, 32, 111]⟩ : ByteArray) (⟨#[]⟩ : ByteArray)).bind fun bt290 => ((head_Lay.f kj2 (⟨#[]⟩ : ByteArray) (⟨#[120]⟩ : ByteArray)).bind fun bt295 => ((head_Lay.f kj2 (⟨#[120]⟩ : ByteArray) (⟨#[97, 10, 98]⟩ : ByteArray)).bind fun bt300 => ((strings_Repeat.f (⟨#[121]⟩ : ByteArray) 8192).bind fun t305 => ((head_Message_Ahead.f kj2 t249 t252 t253 (⟨#[120]⟩ : ByteArray) t305).bind fun bt306 => ((head_Message_Put.f kj2 t249 t252 t253 3 (⟨#[]⟩ : ByteArray)).bind fun bt313 => ((head_Message_Put.f kj2 t249 t252 t253 (-1) (⟨#[]⟩ : ByteArray)).bind fun bt320 => (if t271 = 0 then (if 4 + t267.size ≤ 9223372036854775807 then (if ((⟨#[84, 111, 58, 32]⟩ : ByteArray) ++ t267).size + 4 ≤ 9223372036854775807 then (if (((⟨#[84, 111, 58, 32]⟩ : ByteArray) ++ t267) ++ (⟨#[44, 13, 10, 32]⟩ : ByteArray)).size + t267.size ≤ 9223372036854775807 then (if ((((⟨#[84, 111, 58, 32]⟩ : ByteArray) ++ t267) ++ (⟨#[44, 13, 10, 32]⟩ : ByteArray)) ++ t267).size + 8 ≤ 9223372036854775807 then (if t270.toList = (((((⟨#[84, 111, 58, 32]⟩ : ByteArray) ++ t267) ++ (⟨#[44, 13, 10, 32]⟩ : ByteArray)) ++ t267) ++ (⟨#[44, 32, 121, 44, 32, 122, 13, 10]⟩ : ByteArray)).toList then (if t276 = 0 then (if 8 + t267.size ≤ 9223372036854775807 then (if ((⟨#[84, 111, 58, 32, 44, 13, 10, 32]⟩ : ByteArray) ++ t267).size + t267.size ≤ 9223372036854775807 then (if (((⟨#[84, 111, 58, 32, 44, 13, 10, 32]⟩ : ByteArray) ++ t267) ++ t267).size + 2 ≤ 9223372036854775807 then (if t275.toList = ((((⟨#[84, 111, 58, 32, 44, 13, 10, 32]⟩ : ByteArray) ++ t267) ++ t267) ++ (⟨#[13, 10]⟩ : ByteArray)).toList then (if t282 = 0 then ((strings_Repeat.f (⟨#[121]⟩ : ByteArray) 74).bind fun t327 => (if 4 + t327.size ≤ 9223372036854775807 then (if ((⟨#[84, 111, 58, 32]⟩ : ByteArray) ++ t327).size + 7 ≤ 9223372036854775807 then (if t281.toList = (((⟨#[84, 111, 58, 32]⟩ : ByteArray) ++ t327) ++ (⟨#[44, 13, 10, 32, 122, 13, 10]⟩ : ByteArray)).toList then (if bt285.2.2.2 = 0 then ((strings_Repeat.f (⟨#[121]⟩ : ByteArray) 73).bind fun t328 => (if 4 + t328.size ≤ 9223372036854775807 then (if ((⟨#[84, 111, 58, 32]⟩ : ByteArray) ++ t328).size + 7 ≤ 9223372036854775807 then (if bt285.2.2.1.toList = (((⟨#[84, 111, 58, 32]⟩ : ByteArray) ++ t328) ++ (⟨#[44, 13, 10, 32, 122, 13, 10]⟩ : ByteArray)).toList then (if bt290.2.2.2 = 5 then (if bt295.2.2.2 = 5 then (if bt300.2.2.2 = 5 then (if bt306.2.2.2 = 3 then (if bt313.2.2.2 = 1 then (if bt320.2.2.2 = 1 then ((postriderlaw07_wakes.f kj2).bind fun t329 => (some t329)) else (some false)) else (some false)) else (some false)) else (some false)) else (some false)) else (some false)) else (some false)) else (none)) else (none))) else (some false)) else (some false)) else (none)) else (none))) else (some false)) else (some false)) else (none)) else (none)) else (none)) else (some false)) else (some false)) else (none)) else (none)) else (none)) else (none)) else (some false)))))))))) else (none))) = some r := H
    have A42 := Aside0.mk A420
    clear A420
    replace H := Option.bind_eq_some_iff.mp H
    obtain ⟨t284, A430, H⟩ := H
    replace H : (if t284.size + 3 ≤ 9223372036854775807 then ((head_Lay.f kj2 (⟨#[84, 111]⟩ : ByteArray) (t284 ++ (⟨#[44, 32, 122]⟩ : ByteArray))).bind fun bt285 => ((head_Lay.f kj2 (⟨#[84, 32, 111]⟩ : ByteArray) (⟨#[]⟩ : ByteArray)).bind fun bt290 => ((head_Lay.f kj2 (⟨#[]⟩ : ByteArray) (⟨#[120]⟩ : ByteArray)).bind fun bt295 => ((head_Lay.f kj2 (⟨#[120]⟩ : ByteArray) (⟨#[97, 10, 98]⟩ : ByteArray)).bind fun bt300 => ((strings_Repeat.f (⟨#[121]⟩ : ByteArray) 8192).bind fun t305 => ((head_Message_Ahead.f kj2 t249 t252 t253 (⟨#[120]⟩ : ByteArray) t305).bind fun bt306 => ((head_Message_Put.f kj2 t249 t252 t253 3 (⟨#[]⟩ : ByteArray)).bind fun bt313 => ((head_Message_Put.f kj2 t249 t252 t253 (-1) (⟨#[]⟩ : ByteArray)).bind fun bt320 => (if t271 = 0 then (if 4 + t267.size ≤ 9223372036854775807 then (if ((⟨#[84, 111, 58, 32]⟩ : ByteArray) ++ t267).size + 4 ≤ 9223372036854775807 then (if (((⟨#[84, 111, 58, 32]⟩ : ByteArray) ++ t267) ++ (⟨#[44, 13, 10, 32]⟩ : ByteArray)).size + t267.size ≤ 9223372036854775807 then (if ((((⟨#[84, 111, 58, 32]⟩ : ByteArray) ++ t267) ++ (⟨#[44, 13, 10, 32]⟩ : ByteArray)) ++ t267).size + 8 ≤ 9223372036854775807 then (if t270.toList = (((((⟨#[84, 111, 58, 32]⟩ : ByteArray) ++ t267) ++ (⟨#[44, 13, 10, 32]⟩ : ByteArray)) ++ t267) ++ (⟨#[44, 32, 121, 44, 32, 122, 13, 10]⟩ : ByteArray)).toList then (if t276 = 0 then (if 8 + t267.size ≤ 9223372036854775807 then (if ((⟨#[84, 111, 58, 32, 44, 13, 10, 32]⟩ : ByteArray) ++ t267).size + t267.size ≤ 9223372036854775807 then (if (((⟨#[84, 111, 58, 32, 44, 13, 10, 32]⟩ : ByteArray) ++ t267) ++ t267).size + 2 ≤ 9223372036854775807 then (if t275.toList = ((((⟨#[84, 111, 58, 32, 44, 13, 10, 32]⟩ : ByteArray) ++ t267) ++ t267) ++ (⟨#[13, 10]⟩ : ByteArray)).toList then (if t282 = 0 then ((strings_Repeat.f (⟨#[121]⟩ : ByteArray) 74).bind fun t327 => (if 4 + t327.size ≤ 9223372036854775807 then (if ((⟨#[84, 111, 58, 32]⟩ : ByteArray) ++ t327).size + 7 ≤ 9223372036854775807 then (if t281.toList = (((⟨#[84, 111, 58, 32]⟩ : ByteArray) ++ t327) ++ (⟨#[44, 13, 10, 32, 122, 13, 10]⟩ : ByteArray)).toList then (if bt285.2.2.2 = 0 then ((strings_Repeat.f (⟨#[121]⟩ : ByteArray) 73).bind fun t328 => (if 4 + t328.size ≤ 9223372036854775807 then (if ((⟨#[84, 111, 58, 32]⟩ : ByteArray) ++ t328).size + 7 ≤ 9223372036854775807 then (if bt285.2.2.1.toList = (((⟨#[84, 111, 58, 32]⟩ : ByteArray) ++ t328) ++ (⟨#[44, 13, 10, 32, 122, 13, 10]⟩ : ByteArray)).toList then (if bt290.2.2.2 = 5 then (if bt295.2.2.2 = 5 then (if bt300.2.2.2 = 5 then (if bt306.2.2.2 = 3 then (if bt313.2.2.2 = 1 then (if bt320.2.2.2 = 1 then ((postriderlaw07_wakes.f kj2).bind fun t329 => (some t329)) else (some false)) else (some false)) else (some false)) else (some false)) else (some false)) else (some false)) else (some false)) else (none)) else (none))) else (some false)) else (some false)) else (none)) else (none))) else (some false)) else (some false)) else (none)) else (none)) else (none)) else (some false)) else (some false)) else (none)) else (none)) else (none)) else (none)) else (some false)))))))))) else (none)) = some r := H
    have A43 := Aside0.mk A430
    clear A430
    by_cases c44 : t284.size + 3 ≤ 9223372036854775807
    rotate_left
    ·rw [if_neg c44] at H
     exact absurd H (by simp)
    rw [if_pos c44] at H
    have c44b0 := eq_true c44
    have c44b1 : decide (t284.size + 3 ≤ 9223372036854775807) = true := decide_eq_true c44
    try have c44b2 : (9223372036854775807 < t284.size + 3) = False := eq_false (Nat.not_lt.2 c44)
    replace H := Option.bind_eq_some_iff.mp H
    obtain ⟨⟨t285, t286, t287, t288⟩, A450, H⟩ := H
    replace H : ((head_Lay.f kj2 (⟨#[84, 32, 111]⟩ : ByteArray) (⟨#[]⟩ : ByteArray)).bind fun bt290 => ((head_Lay.f kj2 (⟨#[]⟩ : ByteArray) (⟨#[120]⟩ : ByteArray)).bind fun bt295 => ((head_Lay.f kj2 (⟨#[120]⟩ : ByteArray) (⟨#[97, 10, 98]⟩ : ByteArray)).bind fun bt300 => ((strings_Repeat.f (⟨#[121]⟩ : ByteArray) 8192).bind fun t305 => ((head_Message_Ahead.f kj2 t249 t252 t253 (⟨#[120]⟩ : ByteArray) t305).bind fun bt306 => ((head_Message_Put.f kj2 t249 t252 t253 3 (⟨#[]⟩ : ByteArray)).bind fun bt313 => ((head_Message_Put.f kj2 t249 t252 t253 (-1) (⟨#[]⟩ : ByteArray)).bind fun bt320 => (if t271 = 0 then (if 4 + t267.size ≤ 9223372036854775807 then (if ((⟨#[84, 111, 58, 32]⟩ : ByteArray) ++ t267).size + 4 ≤ 9223372036854775807 then (if (((⟨#[84, 111, 58, 32]⟩ : ByteArray) ++ t267) ++ (⟨#[44, 13, 10, 32]⟩ : ByteArray)).size + t267.size ≤ 9223372036854775807 then (if ((((⟨#[84, 111, 58, 32]⟩ : ByteArray) ++ t267) ++ (⟨#[44, 13, 10, 32]⟩ : ByteArray)) ++ t267).size + 8 ≤ 9223372036854775807 then (if t270.toList = (((((⟨#[84, 111, 58, 32]⟩ : ByteArray) ++ t267) ++ (⟨#[44, 13, 10, 32]⟩ : ByteArray)) ++ t267) ++ (⟨#[44, 32, 121, 44, 32, 122, 13, 10]⟩ : ByteArray)).toList then (if t276 = 0 then (if 8 + t267.size ≤ 9223372036854775807 then (if ((⟨#[84, 111, 58, 32, 44, 13, 10, 32]⟩ : ByteArray) ++ t267).size + t267.size ≤ 9223372036854775807 then (if (((⟨#[84, 111, 58, 32, 44, 13, 10, 32]⟩ : ByteArray) ++ t267) ++ t267).size + 2 ≤ 9223372036854775807 then (if t275.toList = ((((⟨#[84, 111, 58, 32, 44, 13, 10, 32]⟩ : ByteArray) ++ t267) ++ t267) ++ (⟨#[13, 10]⟩ : ByteArray)).toList then (if t282 = 0 then ((strings_Repeat.f (⟨#[121]⟩ : ByteArray) 74).bind fun t327 => (if 4 + t327.size ≤ 9223372036854775807 then (if ((⟨#[84, 111, 58, 32]⟩ : ByteArray) ++ t327).size + 7 ≤ 9223372036854775807 then (if t281.toList = (((⟨#[84, 111, 58, 32]⟩ : ByteArray) ++ t327) ++ (⟨#[44, 13, 10, 32, 122, 13, 10]⟩ : ByteArray)).toList then (if t288 = 0 then ((strings_Repeat.f (⟨#[121]⟩ : ByteArray) 73).bind fun t328 => (if 4 + t328.size ≤ 9223372036854775807 then (if ((⟨#[84, 111, 58, 32]⟩ : ByteArray) ++ t328).size + 7 ≤ 9223372036854775807 then (if t287.toList = (((⟨#[84, 111, 58, 32]⟩ : ByteArray) ++ t328) ++ (⟨#[44, 13, 10, 32, 122, 13, 10]⟩ : ByteArray)).toList then (if bt290.2.2.2 = 5 then (if bt295.2.2.2 = 5 then (if bt300.2.2.2 = 5 then (if bt306.2.2.2 = 3 then (if bt313.2.2.2 = 1 then (if bt320.2.2.2 = 1 then ((postriderlaw07_wakes.f kj2).bind fun t329 => (some t329)) else (some false)) else (some false)) else (some false)) else (some false)) else (some false)) else (some false)) else (some false)) else (none)) else (none))) else (some false)) else (some false)) else (none)) else (none))) else (some false)) else (some false)) else (none)) else (none)) else (none)) else (some false)) else (some false)) else (none)) else (none)) else (none)) else (none)) else (some false))))))))) = some r := H
    have A45 := Aside0.mk A450
    clear A450
    replace H := Option.bind_eq_some_iff.mp H
    obtain ⟨⟨t290, t291, t292, t293⟩, A460, H⟩ := H
    replace H : ((head_Lay.f kj2 (⟨#[]⟩ : ByteArray) (⟨#[120]⟩ : ByteArray)).bind fun bt295 => ((head_Lay.f kj2 (⟨#[120]⟩ : ByteArray) (⟨#[97, 10, 98]⟩ : ByteArray)).bind fun bt300 => ((strings_Repeat.f (⟨#[121]⟩ : ByteArray) 8192).bind fun t305 => ((head_Message_Ahead.f kj2 t249 t252 t253 (⟨#[120]⟩ : ByteArray) t305).bind fun bt306 => ((head_Message_Put.f kj2 t249 t252 t253 3 (⟨#[]⟩ : ByteArray)).bind fun bt313 => ((head_Message_Put.f kj2 t249 t252 t253 (-1) (⟨#[]⟩ : ByteArray)).bind fun bt320 => (if t271 = 0 then (if 4 + t267.size ≤ 9223372036854775807 then (if ((⟨#[84, 111, 58, 32]⟩ : ByteArray) ++ t267).size + 4 ≤ 9223372036854775807 then (if (((⟨#[84, 111, 58, 32]⟩ : ByteArray) ++ t267) ++ (⟨#[44, 13, 10, 32]⟩ : ByteArray)).size + t267.size ≤ 9223372036854775807 then (if ((((⟨#[84, 111, 58, 32]⟩ : ByteArray) ++ t267) ++ (⟨#[44, 13, 10, 32]⟩ : ByteArray)) ++ t267).size + 8 ≤ 9223372036854775807 then (if t270.toList = (((((⟨#[84, 111, 58, 32]⟩ : ByteArray) ++ t267) ++ (⟨#[44, 13, 10, 32]⟩ : ByteArray)) ++ t267) ++ (⟨#[44, 32, 121, 44, 32, 122, 13, 10]⟩ : ByteArray)).toList then (if t276 = 0 then (if 8 + t267.size ≤ 9223372036854775807 then (if ((⟨#[84, 111, 58, 32, 44, 13, 10, 32]⟩ : ByteArray) ++ t267).size + t267.size ≤ 9223372036854775807 then (if (((⟨#[84, 111, 58, 32, 44, 13, 10, 32]⟩ : ByteArray) ++ t267) ++ t267).size + 2 ≤ 9223372036854775807 then (if t275.toList = ((((⟨#[84, 111, 58, 32, 44, 13, 10, 32]⟩ : ByteArray) ++ t267) ++ t267) ++ (⟨#[13, 10]⟩ : ByteArray)).toList then (if t282 = 0 then ((strings_Repeat.f (⟨#[121]⟩ : ByteArray) 74).bind fun t327 => (if 4 + t327.size ≤ 9223372036854775807 then (if ((⟨#[84, 111, 58, 32]⟩ : ByteArray) ++ t327).size + 7 ≤ 9223372036854775807 then (if t281.toList = (((⟨#[84, 111, 58, 32]⟩ : ByteArray) ++ t327) ++ (⟨#[44, 13, 10, 32, 122, 13, 10]⟩ : ByteArray)).toList then (if t288 = 0 then ((strings_Repeat.f (⟨#[121]⟩ : ByteArray) 73).bind fun t328 => (if 4 + t328.size ≤ 9223372036854775807 then (if ((⟨#[84, 111, 58, 32]⟩ : ByteArray) ++ t328).size + 7 ≤ 9223372036854775807 then (if t287.toList = (((⟨#[84, 111, 58, 32]⟩ : ByteArray) ++ t328) ++ (⟨#[44, 13, 10, 32, 122, 13, 10]⟩ : ByteArray)).toList then (if t293 = 5 then (if bt295.2.2.2 = 5 then (if bt300.2.2.2 = 5 then (if bt306.2.2.2 = 3 then (if bt313.2.2.2 = 1 then (if bt320.2.2.2 = 1 then ((postriderlaw07_wakes.f kj2).bind fun t329 => (some t329)) else (some false)) else (some false)) else (some false)) else (some false)) else (some false)) else (some false)) else (some false)) else (none)) else (none))) else (some false)) else (some false)) else (none)) else (none))) else (some false)) else (some false)) else (none)) else (none)) else (none)) else (some false)) else (some false)) else (none)) else (none)) else (none)) else (none)) else (some false)))))))) = some r := H
    have A46 := Aside0.mk A460
    clear A460
    replace H := Option.bind_eq_some_iff.mp H
    obtain ⟨⟨t295, t296, t297, t298⟩, A470, H⟩ := H
    replace H : ((head_Lay.f kj2 (⟨#[120]⟩ : ByteArray) (⟨#[97, 10, 98]⟩ : ByteArray)).bind fun bt300 => ((strings_Repeat.f (⟨#[121]⟩ : ByteArray) 8192).bind fun t305 => ((head_Message_Ahead.f kj2 t249 t252 t253 (⟨#[120]⟩ : ByteArray) t305).bind fun bt306 => ((head_Message_Put.f kj2 t249 t252 t253 3 (⟨#[]⟩ : ByteArray)).bind fun bt313 => ((head_Message_Put.f kj2 t249 t252 t253 (-1) (⟨#[]⟩ : ByteArray)).bind fun bt320 => (if t271 = 0 then (if 4 + t267.size ≤ 9223372036854775807 then (if ((⟨#[84, 111, 58, 32]⟩ : ByteArray) ++ t267).size + 4 ≤ 9223372036854775807 then (if (((⟨#[84, 111, 58, 32]⟩ : ByteArray) ++ t267) ++ (⟨#[44, 13, 10, 32]⟩ : ByteArray)).size + t267.size ≤ 9223372036854775807 then (if ((((⟨#[84, 111, 58, 32]⟩ : ByteArray) ++ t267) ++ (⟨#[44, 13, 10, 32]⟩ : ByteArray)) ++ t267).size + 8 ≤ 9223372036854775807 then (if t270.toList = (((((⟨#[84, 111, 58, 32]⟩ : ByteArray) ++ t267) ++ (⟨#[44, 13, 10, 32]⟩ : ByteArray)) ++ t267) ++ (⟨#[44, 32, 121, 44, 32, 122, 13, 10]⟩ : ByteArray)).toList then (if t276 = 0 then (if 8 + t267.size ≤ 9223372036854775807 then (if ((⟨#[84, 111, 58, 32, 44, 13, 10, 32]⟩ : ByteArray) ++ t267).size + t267.size ≤ 9223372036854775807 then (if (((⟨#[84, 111, 58, 32, 44, 13, 10, 32]⟩ : ByteArray) ++ t267) ++ t267).size + 2 ≤ 9223372036854775807 then (if t275.toList = ((((⟨#[84, 111, 58, 32, 44, 13, 10, 32]⟩ : ByteArray) ++ t267) ++ t267) ++ (⟨#[13, 10]⟩ : ByteArray)).toList then (if t282 = 0 then ((strings_Repeat.f (⟨#[121]⟩ : ByteArray) 74).bind fun t327 => (if 4 + t327.size ≤ 9223372036854775807 then (if ((⟨#[84, 111, 58, 32]⟩ : ByteArray) ++ t327).size + 7 ≤ 9223372036854775807 then (if t281.toList = (((⟨#[84, 111, 58, 32]⟩ : ByteArray) ++ t327) ++ (⟨#[44, 13, 10, 32, 122, 13, 10]⟩ : ByteArray)).toList then (if t288 = 0 then ((strings_Repeat.f (⟨#[121]⟩ : ByteArray) 73).bind fun t328 => (if 4 + t328.size ≤ 9223372036854775807 then (if ((⟨#[84, 111, 58, 32]⟩ : ByteArray) ++ t328).size + 7 ≤ 9223372036854775807 then (if t287.toList = (((⟨#[84, 111, 58, 32]⟩ : ByteArray) ++ t328) ++ (⟨#[44, 13, 10, 32, 122, 13, 10]⟩ : ByteArray)).toList then (if t293 = 5 then (if t298 = 5 then (if bt300.2.2.2 = 5 then (if bt306.2.2.2 = 3 then (if bt313.2.2.2 = 1 then (if bt320.2.2.2 = 1 then ((postriderlaw07_wakes.f kj2).bind fun t329 => (some t329)) else (some false)) else (some false)) else (some false)) else (some false)) else (some false)) else (some false)) else (some false)) else (none)) else (none))) else (some false)) else (some false)) else (none)) else (none))) else (some false)) else (some false)) else (none)) else (none)) else (none)) else (some false)) else (some false)) else (none)) else (none)) else (none)) else (none)) else (some false))))))) = some r := H
    have A47 := Aside0.mk A470
    clear A470
    replace H := Option.bind_eq_some_iff.mp H
    obtain ⟨⟨t300, t301, t302, t303⟩, A480, H⟩ := H
    replace H : ((strings_Repeat.f (⟨#[121]⟩ : ByteArray) 8192).bind fun t305 => ((head_Message_Ahead.f kj2 t249 t252 t253 (⟨#[120]⟩ : ByteArray) t305).bind fun bt306 => ((head_Message_Put.f kj2 t249 t252 t253 3 (⟨#[]⟩ : ByteArray)).bind fun bt313 => ((head_Message_Put.f kj2 t249 t252 t253 (-1) (⟨#[]⟩ : ByteArray)).bind fun bt320 => (if t271 = 0 then (if 4 + t267.size ≤ 9223372036854775807 then (if ((⟨#[84, 111, 58, 32]⟩ : ByteArray) ++ t267).size + 4 ≤ 9223372036854775807 then (if (((⟨#[84, 111, 58, 32]⟩ : ByteArray) ++ t267) ++ (⟨#[44, 13, 10, 32]⟩ : ByteArray)).size + t267.size ≤ 9223372036854775807 then (if ((((⟨#[84, 111, 58, 32]⟩ : ByteArray) ++ t267) ++ (⟨#[44, 13, 10, 32]⟩ : ByteArray)) ++ t267).size + 8 ≤ 9223372036854775807 then (if t270.toList = (((((⟨#[84, 111, 58, 32]⟩ : ByteArray) ++ t267) ++ (⟨#[44, 13, 10, 32]⟩ : ByteArray)) ++ t267) ++ (⟨#[44, 32, 121, 44, 32, 122, 13, 10]⟩ : ByteArray)).toList then (if t276 = 0 then (if 8 + t267.size ≤ 9223372036854775807 then (if ((⟨#[84, 111, 58, 32, 44, 13, 10, 32]⟩ : ByteArray) ++ t267).size + t267.size ≤ 9223372036854775807 then (if (((⟨#[84, 111, 58, 32, 44, 13, 10, 32]⟩ : ByteArray) ++ t267) ++ t267).size + 2 ≤ 9223372036854775807 then (if t275.toList = ((((⟨#[84, 111, 58, 32, 44, 13, 10, 32]⟩ : ByteArray) ++ t267) ++ t267) ++ (⟨#[13, 10]⟩ : ByteArray)).toList then (if t282 = 0 then ((strings_Repeat.f (⟨#[121]⟩ : ByteArray) 74).bind fun t327 => (if 4 + t327.size ≤ 9223372036854775807 then (if ((⟨#[84, 111, 58, 32]⟩ : ByteArray) ++ t327).size + 7 ≤ 9223372036854775807 then (if t281.toList = (((⟨#[84, 111, 58, 32]⟩ : ByteArray) ++ t327) ++ (⟨#[44, 13, 10, 32, 122, 13, 10]⟩ : ByteArray)).toList then (if t288 = 0 then ((strings_Repeat.f (⟨#[121]⟩ : ByteArray) 73).bind fun t328 => (if 4 + t328.size ≤ 9223372036854775807 then (if ((⟨#[84, 111, 58, 32]⟩ : ByteArray) ++ t328).size + 7 ≤ 9223372036854775807 then (if t287.toList = (((⟨#[84, 111, 58, 32]⟩ : ByteArray) ++ t328) ++ (⟨#[44, 13, 10, 32, 122, 13, 10]⟩ : ByteArray)).toList then (if t293 = 5 then (if t298 = 5 then (if t303 = 5 then (if bt306.2.2.2 = 3 then (if bt313.2.2.2 = 1 then (if bt320.2.2.2 = 1 then ((postriderlaw07_wakes.f kj2).bind fun t329 => (some t329)) else (some false)) else (some false)) else (some false)) else (some false)) else (some false)) else (some false)) else (some false)) else (none)) else (none))) else (some false)) else (some false)) else (none)) else (none))) else (some false)) else (some false)) else (none)) else (none)) else (none)) else (some false)) else (some false)) else (none)) else (none)) else (none)) else (none)) else (some false)))))) = some r := H
    have A48 := Aside0.mk A480
    clear A480
    replace H := Option.bind_eq_some_iff.mp H
    obtain ⟨t305, A490, H⟩ := H
    replace H : ((head_Message_Ahead.f kj2 t249 t252 t253 (⟨#[120]⟩ : ByteArray) t305).bind fun bt306 => ((head_Message_Put.f kj2 t249 t252 t253 3 (⟨#[]⟩ : ByteArray)).bind fun bt313 => ((head_Message_Put.f kj2 t249 t252 t253 (-1) (⟨#[]⟩ : ByteArray)).bind fun bt320 => (if t271 = 0 then (if 4 + t267.size ≤ 9223372036854775807 then (if ((⟨#[84, 111, 58, 32]⟩ : ByteArray) ++ t267).size + 4 ≤ 9223372036854775807 then (if (((⟨#[84, 111, 58, 32]⟩ : ByteArray) ++ t267) ++ (⟨#[44, 13, 10, 32]⟩ : ByteArray)).size + t267.size ≤ 9223372036854775807 then (if ((((⟨#[84, 111, 58, 32]⟩ : ByteArray) ++ t267) ++ (⟨#[44, 13, 10, 32]⟩ : ByteArray)) ++ t267).size + 8 ≤ 9223372036854775807 then (if t270.toList = (((((⟨#[84, 111, 58, 32]⟩ : ByteArray) ++ t267) ++ (⟨#[44, 13, 10, 32]⟩ : ByteArray)) ++ t267) ++ (⟨#[44, 32, 121, 44, 32, 122, 13, 10]⟩ : ByteArray)).toList then (if t276 = 0 then (if 8 + t267.size ≤ 9223372036854775807 then (if ((⟨#[84, 111, 58, 32, 44, 13, 10, 32]⟩ : ByteArray) ++ t267).size + t267.size ≤ 9223372036854775807 then (if (((⟨#[84, 111, 58, 32, 44, 13, 10, 32]⟩ : ByteArray) ++ t267) ++ t267).size + 2 ≤ 9223372036854775807 then (if t275.toList = ((((⟨#[84, 111, 58, 32, 44, 13, 10, 32]⟩ : ByteArray) ++ t267) ++ t267) ++ (⟨#[13, 10]⟩ : ByteArray)).toList then (if t282 = 0 then ((strings_Repeat.f (⟨#[121]⟩ : ByteArray) 74).bind fun t327 => (if 4 + t327.size ≤ 9223372036854775807 then (if ((⟨#[84, 111, 58, 32]⟩ : ByteArray) ++ t327).size + 7 ≤ 9223372036854775807 then (if t281.toList = (((⟨#[84, 111, 58, 32]⟩ : ByteArray) ++ t327) ++ (⟨#[44, 13, 10, 32, 122, 13, 10]⟩ : ByteArray)).toList then (if t288 = 0 then ((strings_Repeat.f (⟨#[121]⟩ : ByteArray) 73).bind fun t328 => (if 4 + t328.size ≤ 9223372036854775807 then (if ((⟨#[84, 111, 58, 32]⟩ : ByteArray) ++ t328).size + 7 ≤ 9223372036854775807 then (if t287.toList = (((⟨#[84, 111, 58, 32]⟩ : ByteArray) ++ t328) ++ (⟨#[44, 13, 10, 32, 122, 13, 10]⟩ : ByteArray)).toList then (if t293 = 5 then (if t298 = 5 then (if t303 = 5 then (if bt306.2.2.2 = 3 then (if bt313.2.2.2 = 1 then (if bt320.2.2.2 = 1 then ((postriderlaw07_wakes.f kj2).bind fun t329 => (some t329)) else (some false)) else (some false)) else (some false)) else (some false)) else (some false)) else (some false)) else (some false)) else (none)) else (none))) else (some false)) else (some false)) else (none)) else (none))) else (some false)) else (some false)) else (none)) else (none)) else (none)) else (some false)) else (some false)) else (none)) else (none)) else (none)) else (none)) else (some false))))) = some r := H
    have A49 := Aside0.mk A490
    clear A490
    replace H := Option.bind_eq_some_iff.mp H
    obtain ⟨⟨t306, t309, t310, t311⟩, A500, H⟩ := H
    replace H : ((head_Message_Put.f kj2 t249 t252 t253 3 (⟨#[]⟩ : ByteArray)).bind fun bt313 => ((head_Message_Put.f kj2 t249 t252 t253 (-1) (⟨#[]⟩ : ByteArray)).bind fun bt320 => (if t271 = 0 then (if 4 + t267.size ≤ 9223372036854775807 then (if ((⟨#[84, 111, 58, 32]⟩ : ByteArray) ++ t267).size + 4 ≤ 9223372036854775807 then (if (((⟨#[84, 111, 58, 32]⟩ : ByteArray) ++ t267) ++ (⟨#[44, 13, 10, 32]⟩ : ByteArray)).size + t267.size ≤ 9223372036854775807 then (if ((((⟨#[84, 111, 58, 32]⟩ : ByteArray) ++ t267) ++ (⟨#[44, 13, 10, 32]⟩ : ByteArray)) ++ t267).size + 8 ≤ 9223372036854775807 then (if t270.toList = (((((⟨#[84, 111, 58, 32]⟩ : ByteArray) ++ t267) ++ (⟨#[44, 13, 10, 32]⟩ : ByteArray)) ++ t267) ++ (⟨#[44, 32, 121, 44, 32, 122, 13, 10]⟩ : ByteArray)).toList then (if t276 = 0 then (if 8 + t267.size ≤ 9223372036854775807 then (if ((⟨#[84, 111, 58, 32, 44, 13, 10, 32]⟩ : ByteArray) ++ t267).size + t267.size ≤ 9223372036854775807 then (if (((⟨#[84, 111, 58, 32, 44, 13, 10, 32]⟩ : ByteArray) ++ t267) ++ t267).size + 2 ≤ 9223372036854775807 then (if t275.toList = ((((⟨#[84, 111, 58, 32, 44, 13, 10, 32]⟩ : ByteArray) ++ t267) ++ t267) ++ (⟨#[13, 10]⟩ : ByteArray)).toList then (if t282 = 0 then ((strings_Repeat.f (⟨#[121]⟩ : ByteArray) 74).bind fun t327 => (if 4 + t327.size ≤ 9223372036854775807 then (if ((⟨#[84, 111, 58, 32]⟩ : ByteArray) ++ t327).size + 7 ≤ 9223372036854775807 then (if t281.toList = (((⟨#[84, 111, 58, 32]⟩ : ByteArray) ++ t327) ++ (⟨#[44, 13, 10, 32, 122, 13, 10]⟩ : ByteArray)).toList then (if t288 = 0 then ((strings_Repeat.f (⟨#[121]⟩ : ByteArray) 73).bind fun t328 => (if 4 + t328.size ≤ 9223372036854775807 then (if ((⟨#[84, 111, 58, 32]⟩ : ByteArray) ++ t328).size + 7 ≤ 9223372036854775807 then (if t287.toList = (((⟨#[84, 111, 58, 32]⟩ : ByteArray) ++ t328) ++ (⟨#[44, 13, 10, 32, 122, 13, 10]⟩ : ByteArray)).toList then (if t293 = 5 then (if t298 = 5 then (if t303 = 5 then (if t311 = 3 then (if bt313.2.2.2 = 1 then (if bt320.2.2.2 = 1 then ((postriderlaw07_wakes.f kj2).bind fun t329 => (some t329)) else (some false)) else (some false)) else (some false)) else (some false)) else (some false)) else (some false)) else (some false)) else (none)) else (none))) else (some false)) else (some false)) else (none)) else (none))) else (some false)) else (some false)) else (none)) else (none)) else (none)) else (some false)) else (some false)) else (none)) else (none)) else (none)) else (none)) else (some false)))) = some r := H
    have A50 := Aside0.mk A500
    clear A500
    replace H := Option.bind_eq_some_iff.mp H
    obtain ⟨⟨t313, t316, t317, t318⟩, A510, H⟩ := H
    replace H : ((head_Message_Put.f kj2 t249 t252 t253 (-1) (⟨#[]⟩ : ByteArray)).bind fun bt320 => (if t271 = 0 then (if 4 + t267.size ≤ 9223372036854775807 then (if ((⟨#[84, 111, 58, 32]⟩ : ByteArray) ++ t267).size + 4 ≤ 9223372036854775807 then (if (((⟨#[84, 111, 58, 32]⟩ : ByteArray) ++ t267) ++ (⟨#[44, 13, 10, 32]⟩ : ByteArray)).size + t267.size ≤ 9223372036854775807 then (if ((((⟨#[84, 111, 58, 32]⟩ : ByteArray) ++ t267) ++ (⟨#[44, 13, 10, 32]⟩ : ByteArray)) ++ t267).size + 8 ≤ 9223372036854775807 then (if t270.toList = (((((⟨#[84, 111, 58, 32]⟩ : ByteArray) ++ t267) ++ (⟨#[44, 13, 10, 32]⟩ : ByteArray)) ++ t267) ++ (⟨#[44, 32, 121, 44, 32, 122, 13, 10]⟩ : ByteArray)).toList then (if t276 = 0 then (if 8 + t267.size ≤ 9223372036854775807 then (if ((⟨#[84, 111, 58, 32, 44, 13, 10, 32]⟩ : ByteArray) ++ t267).size + t267.size ≤ 9223372036854775807 then (if (((⟨#[84, 111, 58, 32, 44, 13, 10, 32]⟩ : ByteArray) ++ t267) ++ t267).size + 2 ≤ 9223372036854775807 then (if t275.toList = ((((⟨#[84, 111, 58, 32, 44, 13, 10, 32]⟩ : ByteArray) ++ t267) ++ t267) ++ (⟨#[13, 10]⟩ : ByteArray)).toList then (if t282 = 0 then ((strings_Repeat.f (⟨#[121]⟩ : ByteArray) 74).bind fun t327 => (if 4 + t327.size ≤ 9223372036854775807 then (if ((⟨#[84, 111, 58, 32]⟩ : ByteArray) ++ t327).size + 7 ≤ 9223372036854775807 then (if t281.toList = (((⟨#[84, 111, 58, 32]⟩ : ByteArray) ++ t327) ++ (⟨#[44, 13, 10, 32, 122, 13, 10]⟩ : ByteArray)).toList then (if t288 = 0 then ((strings_Repeat.f (⟨#[121]⟩ : ByteArray) 73).bind fun t328 => (if 4 + t328.size ≤ 9223372036854775807 then (if ((⟨#[84, 111, 58, 32]⟩ : ByteArray) ++ t328).size + 7 ≤ 9223372036854775807 then (if t287.toList = (((⟨#[84, 111, 58, 32]⟩ : ByteArray) ++ t328) ++ (⟨#[44, 13, 10, 32, 122, 13, 10]⟩ : ByteArray)).toList then (if t293 = 5 then (if t298 = 5 then (if t303 = 5 then (if t311 = 3 then (if t318 = 1 then (if bt320.2.2.2 = 1 then ((postriderlaw07_wakes.f kj2).bind fun t329 => (some t329)) else (some false)) else (some false)) else (some false)) else (some false)) else (some false)) else (some false)) else (some false)) else (none)) else (none))) else (some false)) else (some false)) else (none)) else (none))) else (some false)) else (some false)) else (none)) else (none)) else (none)) else (some false)) else (some false)) else (none)) else (none)) else (none)) else (none)) else (some false))) = some r := H
    have A51 := Aside0.mk A510
    clear A510
    replace H := Option.bind_eq_some_iff.mp H
    obtain ⟨⟨t320, t323, t324, t325⟩, A520, H⟩ := H
    replace H : (if t271 = 0 then (if 4 + t267.size ≤ 9223372036854775807 then (if ((⟨#[84, 111, 58, 32]⟩ : ByteArray) ++ t267).size + 4 ≤ 9223372036854775807 then (if (((⟨#[84, 111, 58, 32]⟩ : ByteArray) ++ t267) ++ (⟨#[44, 13, 10, 32]⟩ : ByteArray)).size + t267.size ≤ 9223372036854775807 then (if ((((⟨#[84, 111, 58, 32]⟩ : ByteArray) ++ t267) ++ (⟨#[44, 13, 10, 32]⟩ : ByteArray)) ++ t267).size + 8 ≤ 9223372036854775807 then (if t270.toList = (((((⟨#[84, 111, 58, 32]⟩ : ByteArray) ++ t267) ++ (⟨#[44, 13, 10, 32]⟩ : ByteArray)) ++ t267) ++ (⟨#[44, 32, 121, 44, 32, 122, 13, 10]⟩ : ByteArray)).toList then (if t276 = 0 then (if 8 + t267.size ≤ 9223372036854775807 then (if ((⟨#[84, 111, 58, 32, 44, 13, 10, 32]⟩ : ByteArray) ++ t267).size + t267.size ≤ 9223372036854775807 then (if (((⟨#[84, 111, 58, 32, 44, 13, 10, 32]⟩ : ByteArray) ++ t267) ++ t267).size + 2 ≤ 9223372036854775807 then (if t275.toList = ((((⟨#[84, 111, 58, 32, 44, 13, 10, 32]⟩ : ByteArray) ++ t267) ++ t267) ++ (⟨#[13, 10]⟩ : ByteArray)).toList then (if t282 = 0 then ((strings_Repeat.f (⟨#[121]⟩ : ByteArray) 74).bind fun t327 => (if 4 + t327.size ≤ 9223372036854775807 then (if ((⟨#[84, 111, 58, 32]⟩ : ByteArray) ++ t327).size + 7 ≤ 9223372036854775807 then (if t281.toList = (((⟨#[84, 111, 58, 32]⟩ : ByteArray) ++ t327) ++ (⟨#[44, 13, 10, 32, 122, 13, 10]⟩ : ByteArray)).toList then (if t288 = 0 then ((strings_Repeat.f (⟨#[121]⟩ : ByteArray) 73).bind fun t328 => (if 4 + t328.size ≤ 9223372036854775807 then (if ((⟨#[84, 111, 58, 32]⟩ : ByteArray) ++ t328).size + 7 ≤ 9223372036854775807 then (if t287.toList = (((⟨#[84, 111, 58, 32]⟩ : ByteArray) ++ t328) ++ (⟨#[44, 13, 10, 32, 122, 13, 10]⟩ : ByteArray)).toList then (if t293 = 5 then (if t298 = 5 then (if t303 = 5 then (if t311 = 3 then (if t318 = 1 then (if t325 = 1 then ((postriderlaw07_wakes.f kj2).bind fun t329 => (some t329)) else (some false)) else (some false)) else (some false)) else (some false)) else (some false)) else (some false)) else (some false)) else (none)) else (none))) else (some false)) else (some false)) else (none)) else (none))) else (some false)) else (some false)) else (none)) else (none)) else (none)) else (some false)) else (some false)) else (none)) else (none)) else (none)) else (none)) else (some false)) = some r := H
    have A52 := Aside0.mk A520
    clear A520
    by_cases c53 : t271 = 0
    rotate_left
    ·rw [if_neg c53] at H
     have c53b0 : (t271 == 0) = false := beq_eq_false_iff_ne.mpr c53
     have c53b1 : (t271 != 0) = true := bne_iff_ne.mpr c53
     exact absurd ((Option.some.inj H).trans HT_r.out) (by decide)
    rw [if_pos c53] at H
    have c53b0 : (t271 == 0) = true := beq_iff_eq.mpr c53
    have c53b1 : (t271 != 0) = false := bne_eq_false_iff_eq.mpr c53
    clear c53
    by_cases c54 : 4 + t267.size ≤ 9223372036854775807
    rotate_left
    ·rw [if_neg c54] at H
     exact absurd H (by simp)
    rw [if_pos c54] at H
    have c54b0 := eq_true c54
    have c54b1 : decide (4 + t267.size ≤ 9223372036854775807) = true := decide_eq_true c54
    try have c54b2 : (9223372036854775807 < 4 + t267.size) = False := eq_false (Nat.not_lt.2 c54)
    by_cases c55 : ((⟨#[84, 111, 58, 32]⟩ : ByteArray) ++ t267).size + 4 ≤ 9223372036854775807
    rotate_left
    ·rw [if_neg c55] at H
     exact absurd H (by simp)
    rw [if_pos c55] at H
    have c55b0 := eq_true c55
    have c55b1 : decide (((⟨#[84, 111, 58, 32]⟩ : ByteArray) ++ t267).size + 4 ≤ 9223372036854775807) = true := decide_eq_true c55
    try have c55b2 : (9223372036854775807 < ((⟨#[84, 111, 58, 32]⟩ : ByteArray) ++ t267).size + 4) = False := eq_false (Nat.not_lt.2 c55)
    try (have c55b2y := c55b2; rw [ByteArray.size_append] at c55b2y)
    try have c55b2z : (9223372036854775807 < 4 + t267.size + 4) = False := eq_false (fun h_ => by have g_ := c55; simp only [ByteArray.size_append, show (⟨#[84, 111, 58, 32]⟩ : ByteArray).size = 4 from rfl] at g_; omega)
    by_cases c56 : (((⟨#[84, 111, 58, 32]⟩ : ByteArray) ++ t267) ++ (⟨#[44, 13, 10, 32]⟩ : ByteArray)).size + t267.size ≤ 9223372036854775807
    rotate_left
    ·rw [if_neg c56] at H
     exact absurd H (by simp)
    rw [if_pos c56] at H
    have c56b0 := eq_true c56
    have c56b1 : decide ((((⟨#[84, 111, 58, 32]⟩ : ByteArray) ++ t267) ++ (⟨#[44, 13, 10, 32]⟩ : ByteArray)).size + t267.size ≤ 9223372036854775807) = true := decide_eq_true c56
    try have c56b2 : (9223372036854775807 < (((⟨#[84, 111, 58, 32]⟩ : ByteArray) ++ t267) ++ (⟨#[44, 13, 10, 32]⟩ : ByteArray)).size + t267.size) = False := eq_false (Nat.not_lt.2 c56)
    try (have c56b2y := c56b2; rw [ByteArray.size_append] at c56b2y)
    try have c56b2z : (9223372036854775807 < 4 + t267.size + 4 + t267.size) = False := eq_false (fun h_ => by have g_ := c56; simp only [ByteArray.size_append, show (⟨#[44, 13, 10, 32]⟩ : ByteArray).size = 4 from rfl, show (⟨#[84, 111, 58, 32]⟩ : ByteArray).size = 4 from rfl] at g_; omega)
    by_cases c57 : ((((⟨#[84, 111, 58, 32]⟩ : ByteArray) ++ t267) ++ (⟨#[44, 13, 10, 32]⟩ : ByteArray)) ++ t267).size + 8 ≤ 9223372036854775807
    rotate_left
    ·rw [if_neg c57] at H
     exact absurd H (by simp)
    rw [if_pos c57] at H
    have c57b0 := eq_true c57
    have c57b1 : decide (((((⟨#[84, 111, 58, 32]⟩ : ByteArray) ++ t267) ++ (⟨#[44, 13, 10, 32]⟩ : ByteArray)) ++ t267).size + 8 ≤ 9223372036854775807) = true := decide_eq_true c57
    try have c57b2 : (9223372036854775807 < ((((⟨#[84, 111, 58, 32]⟩ : ByteArray) ++ t267) ++ (⟨#[44, 13, 10, 32]⟩ : ByteArray)) ++ t267).size + 8) = False := eq_false (Nat.not_lt.2 c57)
    try (have c57b2y := c57b2; rw [ByteArray.size_append] at c57b2y)
    try have c57b2z : (9223372036854775807 < 4 + t267.size + 4 + t267.size + 8) = False := eq_false (fun h_ => by have g_ := c57; simp only [ByteArray.size_append, show (⟨#[44, 13, 10, 32]⟩ : ByteArray).size = 4 from rfl, show (⟨#[84, 111, 58, 32]⟩ : ByteArray).size = 4 from rfl] at g_; omega)
    by_cases c58 : t270.toList = (((((⟨#[84, 111, 58, 32]⟩ : ByteArray) ++ t267) ++ (⟨#[44, 13, 10, 32]⟩ : ByteArray)) ++ t267) ++ (⟨#[44, 32, 121, 44, 32, 122, 13, 10]⟩ : ByteArray)).toList
    rotate_left
    ·rw [if_neg c58] at H
     have c58b0 : (t270.toList == (((((⟨#[84, 111, 58, 32]⟩ : ByteArray) ++ t267) ++ (⟨#[44, 13, 10, 32]⟩ : ByteArray)) ++ t267) ++ (⟨#[44, 32, 121, 44, 32, 122, 13, 10]⟩ : ByteArray)).toList) = false := beq_eq_false_iff_ne.mpr c58
     have c58b1 : (t270.toList != (((((⟨#[84, 111, 58, 32]⟩ : ByteArray) ++ t267) ++ (⟨#[44, 13, 10, 32]⟩ : ByteArray)) ++ t267) ++ (⟨#[44, 32, 121, 44, 32, 122, 13, 10]⟩ : ByteArray)).toList) = true := bne_iff_ne.mpr c58
     exact absurd ((Option.some.inj H).trans HT_r.out) (by decide)
    rw [if_pos c58] at H
    have c58b0 : (t270.toList == (((((⟨#[84, 111, 58, 32]⟩ : ByteArray) ++ t267) ++ (⟨#[44, 13, 10, 32]⟩ : ByteArray)) ++ t267) ++ (⟨#[44, 32, 121, 44, 32, 122, 13, 10]⟩ : ByteArray)).toList) = true := beq_iff_eq.mpr c58
    have c58b1 : (t270.toList != (((((⟨#[84, 111, 58, 32]⟩ : ByteArray) ++ t267) ++ (⟨#[44, 13, 10, 32]⟩ : ByteArray)) ++ t267) ++ (⟨#[44, 32, 121, 44, 32, 122, 13, 10]⟩ : ByteArray)).toList) = false := bne_eq_false_iff_eq.mpr c58
    clear c58
    by_cases c59 : t276 = 0
    rotate_left
    ·rw [if_neg c59] at H
     have c59b0 : (t276 == 0) = false := beq_eq_false_iff_ne.mpr c59
     have c59b1 : (t276 != 0) = true := bne_iff_ne.mpr c59
     exact absurd ((Option.some.inj H).trans HT_r.out) (by decide)
    rw [if_pos c59] at H
    have c59b0 : (t276 == 0) = true := beq_iff_eq.mpr c59
    have c59b1 : (t276 != 0) = false := bne_eq_false_iff_eq.mpr c59
    clear c59
    by_cases c60 : 8 + t267.size ≤ 9223372036854775807
    rotate_left
    ·rw [if_neg c60] at H
     exact absurd H (by simp)
    rw [if_pos c60] at H
    have c60b0 := eq_true c60
    have c60b1 : decide (8 + t267.size ≤ 9223372036854775807) = true := decide_eq_true c60
    try have c60b2 : (9223372036854775807 < 8 + t267.size) = False := eq_false (Nat.not_lt.2 c60)
    by_cases c61 : ((⟨#[84, 111, 58, 32, 44, 13, 10, 32]⟩ : ByteArray) ++ t267).size + t267.size ≤ 9223372036854775807
    rotate_left
    ·rw [if_neg c61] at H
     exact absurd H (by simp)
    rw [if_pos c61] at H
    have c61b0 := eq_true c61
    have c61b1 : decide (((⟨#[84, 111, 58, 32, 44, 13, 10, 32]⟩ : ByteArray) ++ t267).size + t267.size ≤ 9223372036854775807) = true := decide_eq_true c61
    try have c61b2 : (9223372036854775807 < ((⟨#[84, 111, 58, 32, 44, 13, 10, 32]⟩ : ByteArray) ++ t267).size + t267.size) = False := eq_false (Nat.not_lt.2 c61)
    try (have c61b2y := c61b2; rw [ByteArray.size_append] at c61b2y)
    try have c61b2z : (9223372036854775807 < 8 + t267.size + t267.size) = False := eq_false (fun h_ => by have g_ := c61; simp only [ByteArray.size_append, show (⟨#[84, 111, 58, 32, 44, 13, 10, 32]⟩ : ByteArray).size = 8 from rfl] at g_; omega)
    by_cases c62 : (((⟨#[84, 111, 58, 32, 44, 13, 10, 32]⟩ : ByteArray) ++ t267) ++ t267).size + 2 ≤ 9223372036854775807
    rotate_left
    ·rw [if_neg c62] at H
     exact absurd H (by simp)
    rw [if_pos c62] at H
    have c62b0 := eq_true c62
    have c62b1 : decide ((((⟨#[84, 111, 58, 32, 44, 13, 10, 32]⟩ : ByteArray) ++ t267) ++ t267).size + 2 ≤ 9223372036854775807) = true := decide_eq_true c62
    try have c62b2 : (9223372036854775807 < (((⟨#[84, 111, 58, 32, 44, 13, 10, 32]⟩ : ByteArray) ++ t267) ++ t267).size + 2) = False := eq_false (Nat.not_lt.2 c62)
    try (have c62b2y := c62b2; rw [ByteArray.size_append] at c62b2y)
    try have c62b2z : (9223372036854775807 < 8 + t267.size + t267.size + 2) = False := eq_false (fun h_ => by have g_ := c62; simp only [ByteArray.size_append, show (⟨#[84, 111, 58, 32, 44, 13, 10, 32]⟩ : ByteArray).size = 8 from rfl] at g_; omega)
    by_cases c63 : t275.toList = ((((⟨#[84, 111, 58, 32, 44, 13, 10, 32]⟩ : ByteArray) ++ t267) ++ t267) ++ (⟨#[13, 10]⟩ : ByteArray)).toList
    rotate_left
    ·rw [if_neg c63] at H
     have c63b0 : (t275.toList == ((((⟨#[84, 111, 58, 32, 44, 13, 10, 32]⟩ : ByteArray) ++ t267) ++ t267) ++ (⟨#[13, 10]⟩ : ByteArray)).toList) = false := beq_eq_false_iff_ne.mpr c63
     have c63b1 : (t275.toList != ((((⟨#[84, 111, 58, 32, 44, 13, 10, 32]⟩ : ByteArray) ++ t267) ++ t267) ++ (⟨#[13, 10]⟩ : ByteArray)).toList) = true := bne_iff_ne.mpr c63
     exact absurd ((Option.some.inj H).trans HT_r.out) (by decide)
    rw [if_pos c63] at H
    have c63b0 : (t275.toList == ((((⟨#[84, 111, 58, 32, 44, 13, 10, 32]⟩ : ByteArray) ++ t267) ++ t267) ++ (⟨#[13, 10]⟩ : ByteArray)).toList) = true := beq_iff_eq.mpr c63
    have c63b1 : (t275.toList != ((((⟨#[84, 111, 58, 32, 44, 13, 10, 32]⟩ : ByteArray) ++ t267) ++ t267) ++ (⟨#[13, 10]⟩ : ByteArray)).toList) = false := bne_eq_false_iff_eq.mpr c63
    clear c63
    by_cases c64 : t282 = 0
    rotate_left
    ·rw [if_neg c64] at H
     have c64b0 : (t282 == 0) = false := beq_eq_false_iff_ne.mpr c64
     have c64b1 : (t282 != 0) = true := bne_iff_ne.mpr c64
     exact absurd ((Option.some.inj H).trans HT_r.out) (by decide)
    rw [if_pos c64] at H
    have c64b0 : (t282 == 0) = true := beq_iff_eq.mpr c64
    have c64b1 : (t282 != 0) = false := bne_eq_false_iff_eq.mpr c64
    clear c64
    replace H := Option.bind_eq_some_iff.mp H
    obtain ⟨t327, A650, H⟩ := H
    replace H : (if 4 + t327.size ≤ 9223372036854775807 then (if ((⟨#[84, 111, 58, 32]⟩ : ByteArray) ++ t327).size + 7 ≤ 9223372036854775807 then (if t281.toList = (((⟨#[84, 111, 58, 32]⟩ : ByteArray) ++ t327) ++ (⟨#[44, 13, 10, 32, 122, 13, 10]⟩ : ByteArray)).toList then (if t288 = 0 then ((strings_Repeat.f (⟨#[121]⟩ : ByteArray) 73).bind fun t328 => (if 4 + t328.size ≤ 9223372036854775807 then (if ((⟨#[84, 111, 58, 32]⟩ : ByteArray) ++ t328).size + 7 ≤ 9223372036854775807 then (if t287.toList = (((⟨#[84, 111, 58, 32]⟩ : ByteArray) ++ t328) ++ (⟨#[44, 13, 10, 32, 122, 13, 10]⟩ : ByteArray)).toList then (if t293 = 5 then (if t298 = 5 then (if t303 = 5 then (if t311 = 3 then (if t318 = 1 then (if t325 = 1 then ((postriderlaw07_wakes.f kj2).bind fun t329 => (some t329)) else (some false)) else (some false)) else (some false)) else (some false)) else (some false)) else (some false)) else (some false)) else (none)) else (none))) else (some false)) else (some false)) else (none)) else (none)) = some r := H
    have A65 := Aside0.mk A650
    clear A650
    have E_ : t278 = t327 := Option.some.inj (A40.out.symm.trans A65.out)
    subst E_
    by_cases c66 : 4 + t278.size ≤ 9223372036854775807
    rotate_left
    ·rw [if_neg c66] at H
     exact absurd H (by simp)
    rw [if_pos c66] at H
    have c66b0 := eq_true c66
    have c66b1 : decide (4 + t278.size ≤ 9223372036854775807) = true := decide_eq_true c66
    try have c66b2 : (9223372036854775807 < 4 + t278.size) = False := eq_false (Nat.not_lt.2 c66)
    by_cases c67 : ((⟨#[84, 111, 58, 32]⟩ : ByteArray) ++ t278).size + 7 ≤ 9223372036854775807
    rotate_left
    ·rw [if_neg c67] at H
     exact absurd H (by simp)
    rw [if_pos c67] at H
    have c67b0 := eq_true c67
    have c67b1 : decide (((⟨#[84, 111, 58, 32]⟩ : ByteArray) ++ t278).size + 7 ≤ 9223372036854775807) = true := decide_eq_true c67
    try have c67b2 : (9223372036854775807 < ((⟨#[84, 111, 58, 32]⟩ : ByteArray) ++ t278).size + 7) = False := eq_false (Nat.not_lt.2 c67)
    try (have c67b2y := c67b2; rw [ByteArray.size_append] at c67b2y)
    try have c67b2z : (9223372036854775807 < 4 + t278.size + 7) = False := eq_false (fun h_ => by have g_ := c67; simp only [ByteArray.size_append, show (⟨#[84, 111, 58, 32]⟩ : ByteArray).size = 4 from rfl] at g_; omega)
    by_cases c68 : t281.toList = (((⟨#[84, 111, 58, 32]⟩ : ByteArray) ++ t278) ++ (⟨#[44, 13, 10, 32, 122, 13, 10]⟩ : ByteArray)).toList
    rotate_left
    ·rw [if_neg c68] at H
     have c68b0 : (t281.toList == (((⟨#[84, 111, 58, 32]⟩ : ByteArray) ++ t278) ++ (⟨#[44, 13, 10, 32, 122, 13, 10]⟩ : ByteArray)).toList) = false := beq_eq_false_iff_ne.mpr c68
     have c68b1 : (t281.toList != (((⟨#[84, 111, 58, 32]⟩ : ByteArray) ++ t278) ++ (⟨#[44, 13, 10, 32, 122, 13, 10]⟩ : ByteArray)).toList) = true := bne_iff_ne.mpr c68
     exact absurd ((Option.some.inj H).trans HT_r.out) (by decide)
    rw [if_pos c68] at H
    have c68b0 : (t281.toList == (((⟨#[84, 111, 58, 32]⟩ : ByteArray) ++ t278) ++ (⟨#[44, 13, 10, 32, 122, 13, 10]⟩ : ByteArray)).toList) = true := beq_iff_eq.mpr c68
    have c68b1 : (t281.toList != (((⟨#[84, 111, 58, 32]⟩ : ByteArray) ++ t278) ++ (⟨#[44, 13, 10, 32, 122, 13, 10]⟩ : ByteArray)).toList) = false := bne_eq_false_iff_eq.mpr c68
    clear c68
    by_cases c69 : t288 = 0
    rotate_left
    ·rw [if_neg c69] at H
     have c69b0 : (t288 == 0) = false := beq_eq_false_iff_ne.mpr c69
     have c69b1 : (t288 != 0) = true := bne_iff_ne.mpr c69
     exact absurd ((Option.some.inj H).trans HT_r.out) (by decide)
    rw [if_pos c69] at H
    have c69b0 : (t288 == 0) = true := beq_iff_eq.mpr c69
    have c69b1 : (t288 != 0) = false := bne_eq_false_iff_eq.mpr c69
    clear c69
    replace H := Option.bind_eq_some_iff.mp H
    obtain ⟨t328, A700, H⟩ := H
    replace H : (if 4 + t328.size ≤ 9223372036854775807 then (if ((⟨#[84, 111, 58, 32]⟩ : ByteArray) ++ t328).size + 7 ≤ 9223372036854775807 then (if t287.toList = (((⟨#[84, 111, 58, 32]⟩ : ByteArray) ++ t328) ++ (⟨#[44, 13, 10, 32, 122, 13, 10]⟩ : ByteArray)).toList then (if t293 = 5 then (if t298 = 5 then (if t303 = 5 then (if t311 = 3 then (if t318 = 1 then (if t325 = 1 then ((postriderlaw07_wakes.f kj2).bind fun t329 => (some t329)) else (some false)) else (some false)) else (some false)) else (some false)) else (some false)) else (some false)) else (some false)) else (none)) else (none)) = some r := H
    have A70 := Aside0.mk A700
    clear A700
    have E_ : t284 = t328 := Option.some.inj (A43.out.symm.trans A70.out)
    subst E_
    by_cases c71 : 4 + t284.size ≤ 9223372036854775807
    rotate_left
    ·rw [if_neg c71] at H
     exact absurd H (by simp)
    rw [if_pos c71] at H
    have c71b0 := eq_true c71
    have c71b1 : decide (4 + t284.size ≤ 9223372036854775807) = true := decide_eq_true c71
    try have c71b2 : (9223372036854775807 < 4 + t284.size) = False := eq_false (Nat.not_lt.2 c71)
    by_cases c72 : ((⟨#[84, 111, 58, 32]⟩ : ByteArray) ++ t284).size + 7 ≤ 9223372036854775807
    rotate_left
    ·rw [if_neg c72] at H
     exact absurd H (by simp)
    rw [if_pos c72] at H
    have c72b0 := eq_true c72
    have c72b1 : decide (((⟨#[84, 111, 58, 32]⟩ : ByteArray) ++ t284).size + 7 ≤ 9223372036854775807) = true := decide_eq_true c72
    try have c72b2 : (9223372036854775807 < ((⟨#[84, 111, 58, 32]⟩ : ByteArray) ++ t284).size + 7) = False := eq_false (Nat.not_lt.2 c72)
    try (have c72b2y := c72b2; rw [ByteArray.size_append] at c72b2y)
    try have c72b2z : (9223372036854775807 < 4 + t284.size + 7) = False := eq_false (fun h_ => by have g_ := c72; simp only [ByteArray.size_append, show (⟨#[84, 111, 58, 32]⟩ : ByteArray).size = 4 from rfl] at g_; omega)
    by_cases c73 : t287.toList = (((⟨#[84, 111, 58, 32]⟩ : ByteArray) ++ t284) ++ (⟨#[44, 13, 10, 32, 122, 13, 10]⟩ : ByteArray)).toList
    rotate_left
    ·rw [if_neg c73] at H
     have c73b0 : (t287.toList == (((⟨#[84, 111, 58, 32]⟩ : ByteArray) ++ t284) ++ (⟨#[44, 13, 10, 32, 122, 13, 10]⟩ : ByteArray)).toList) = false := beq_eq_false_iff_ne.mpr c73
     have c73b1 : (t287.toList != (((⟨#[84, 111, 58, 32]⟩ : ByteArray) ++ t284) ++ (⟨#[44, 13, 10, 32, 122, 13, 10]⟩ : ByteArray)).toList) = true := bne_iff_ne.mpr c73
     exact absurd ((Option.some.inj H).trans HT_r.out) (by decide)
    rw [if_pos c73] at H
    have c73b0 : (t287.toList == (((⟨#[84, 111, 58, 32]⟩ : ByteArray) ++ t284) ++ (⟨#[44, 13, 10, 32, 122, 13, 10]⟩ : ByteArray)).toList) = true := beq_iff_eq.mpr c73
    have c73b1 : (t287.toList != (((⟨#[84, 111, 58, 32]⟩ : ByteArray) ++ t284) ++ (⟨#[44, 13, 10, 32, 122, 13, 10]⟩ : ByteArray)).toList) = false := bne_eq_false_iff_eq.mpr c73
    clear c73
    by_cases c74 : t293 = 5
    rotate_left
    ·rw [if_neg c74] at H
     have c74b0 : (t293 == 5) = false := beq_eq_false_iff_ne.mpr c74
     have c74b1 : (t293 != 5) = true := bne_iff_ne.mpr c74
     exact absurd ((Option.some.inj H).trans HT_r.out) (by decide)
    rw [if_pos c74] at H
    have c74b0 : (t293 == 5) = true := beq_iff_eq.mpr c74
    have c74b1 : (t293 != 5) = false := bne_eq_false_iff_eq.mpr c74
    clear c74
    by_cases c75 : t298 = 5
    rotate_left
    ·rw [if_neg c75] at H
     have c75b0 : (t298 == 5) = false := beq_eq_false_iff_ne.mpr c75
     have c75b1 : (t298 != 5) = true := bne_iff_ne.mpr c75
     exact absurd ((Option.some.inj H).trans HT_r.out) (by decide)
    rw [if_pos c75] at H
    have c75b0 : (t298 == 5) = true := beq_iff_eq.mpr c75
    have c75b1 : (t298 != 5) = false := bne_eq_false_iff_eq.mpr c75
    clear c75
    by_cases c76 : t303 = 5
    rotate_left
    ·rw [if_neg c76] at H
     have c76b0 : (t303 == 5) = false := beq_eq_false_iff_ne.mpr c76
     have c76b1 : (t303 != 5) = true := bne_iff_ne.mpr c76
     exact absurd ((Option.some.inj H).trans HT_r.out) (by decide)
    rw [if_pos c76] at H
    have c76b0 : (t303 == 5) = true := beq_iff_eq.mpr c76
    have c76b1 : (t303 != 5) = false := bne_eq_false_iff_eq.mpr c76
    clear c76
    by_cases c77 : t311 = 3
    rotate_left
    ·rw [if_neg c77] at H
     have c77b0 : (t311 == 3) = false := beq_eq_false_iff_ne.mpr c77
     have c77b1 : (t311 != 3) = true := bne_iff_ne.mpr c77
     exact absurd ((Option.some.inj H).trans HT_r.out) (by decide)
    rw [if_pos c77] at H
    have c77b0 : (t311 == 3) = true := beq_iff_eq.mpr c77
    have c77b1 : (t311 != 3) = false := bne_eq_false_iff_eq.mpr c77
    clear c77
    by_cases c78 : t318 = 1
    rotate_left
    ·rw [if_neg c78] at H
     have c78b0 : (t318 == 1) = false := beq_eq_false_iff_ne.mpr c78
     have c78b1 : (t318 != 1) = true := bne_iff_ne.mpr c78
     exact absurd ((Option.some.inj H).trans HT_r.out) (by decide)
    rw [if_pos c78] at H
    have c78b0 : (t318 == 1) = true := beq_iff_eq.mpr c78
    have c78b1 : (t318 != 1) = false := bne_eq_false_iff_eq.mpr c78
    clear c78
    by_cases c79 : t325 = 1
    rotate_left
    ·rw [if_neg c79] at H
     have c79b0 : (t325 == 1) = false := beq_eq_false_iff_ne.mpr c79
     have c79b1 : (t325 != 1) = true := bne_iff_ne.mpr c79
     exact absurd ((Option.some.inj H).trans HT_r.out) (by decide)
    rw [if_pos c79] at H
    have c79b0 : (t325 == 1) = true := beq_iff_eq.mpr c79
    have c79b1 : (t325 != 1) = false := bne_eq_false_iff_eq.mpr c79
    clear c79
    replace H := Option.bind_eq_some_iff.mp H
    obtain ⟨t329, A800, H⟩ := H
    replace H : (some t329) = some r := H
    have A80 := Aside0.mk A800
    clear A800
    obtain rfl := Option.some.inj H
    try go_wp2_with (first | ((with_reducible refine gate_callee (f := 38) rfl ?_); refine goesL_ (some 100) rfl rfl Tryd.func38 (by kernel_rfl) rfl #[.string (⟨#[120]⟩ : ByteArray), .int .i64 70] rfl ml ?_; (with_reducible refine (strings_Repeat.calls (⟨#[120]⟩ : ByteArray) 70 t267 _ A32.out).mono ?_); rintro e w81 ⟨rfl, hb⟩; refine ⟨_, rfl, ?_⟩; have n0_ := Aside0.mk (Kd.R_below (kr HO_256000.out) hb); have n1_ := Aside0.mk (kb BK255.out hb); have n2_ := Aside0.mk (below_step bl hb); clear HO_256000; clear BK255; clear HB; have HO_256000 := n0_; have BK255 := n1_; have HB := n2_; clear n0_ n1_ n2_; (try clear hb); (try clear hb2); (try clear hk); (try clear hi)) | ((with_reducible refine gate_callee (f := 14) rfl ?_); refine goesL_ (some 107) rfl rfl Tryd.func14 (by kernel_rfl) rfl #[.string (⟨#[84, 111]⟩ : ByteArray), .string (((t267 ++ (⟨#[44, 32]⟩ : ByteArray)) ++ t267) ++ (⟨#[44, 32, 121, 44, 32, 122]⟩ : ByteArray))] rfl ml ?_; (with_reducible refine (head_Lay.calls kj2 (⟨#[84, 111]⟩ : ByteArray) (((t267 ++ (⟨#[44, 32]⟩ : ByteArray)) ++ t267) ++ (⟨#[44, 32, 121, 44, 32, 122]⟩ : ByteArray)) t268 t269 t270 t271 _ ?side1 A36.out).mono ?_); (case side1 => exact Glob.below HG.out bl); rintro e w82 ⟨rfl, hb⟩; refine ⟨_, rfl, ?_⟩; have n0_ := Aside0.mk (Kd.R_below (kr HO_256000.out) hb); have n1_ := Aside0.mk (kb BK255.out hb); have n2_ := Aside0.mk (below_step bl hb); clear HO_256000; clear BK255; clear HB; have HO_256000 := n0_; have BK255 := n1_; have HB := n2_; clear n0_ n1_ n2_; (try clear hb); (try clear hb2); (try clear hk); (try clear hi)) | ((with_reducible refine gate_dst (N := 8) rfl ?_); (try (refine gate_guard (by rfl) ?_; dsimp only)); refine box_event ?hg (N := 8) ?hd (cs := #[.string (⟨#[]⟩ : ByteArray), .string (⟨#[]⟩ : ByteArray), .string (⟨#[]⟩ : ByteArray)]) (t := 41) ?hr ?_; (case hd => rfl); (case hg => rfl); (case hr => first | (go_simp; done) | (go_simp; rfl)); intro gb272 hg w83 hbox hb; have n0_ := Aside0.mk (Kd.R_below (Kd.R_elderB (kr HO_256000.out) gb272 (Nat.le_of_eq hg.symm)) hb); have n1_ := Aside0.mk (kb BK255.out hb); have n2_ := Aside0.mk (below_step bl hb); have n3_ := Aside0.mk (hbox); have n4_ := Aside0.mk ((by rw [hg]; exact (below_size bl) : w.heap.size ≤ gb272)); have n5_ := Aside0.mk ((by rw [hg]; exact (below_size bl) : w.heap.size ≤ gb272)); have n6_ := Aside0.mk ((by rw [hg]; exact Nat.ne_of_lt (blk_lt (bk BK255.out)) : gb255 ≠ gb272)); have n7_ := Aside0.mk ((by rw [hg]; exact Nat.ne_of_gt (blk_lt (bk BK255.out)) : gb272 ≠ gb255)); clear HO_256000; clear BK255; clear HB; have HO_256000 := n0_; have BK255 := n1_; have HB := n2_; have BK272 := n3_; have GW272 := n4_; have GE272 := n5_; have NB255_272 := n6_; have NB272_255 := n7_; clear n0_ n1_ n2_ n3_ n4_ n5_ n6_ n7_; clear hb hbox hg; have hnb84 := NB272_255.out; have hnc84 := NB255_272.out; have hcz85_0 : w83.cell? ⟨gb272, 0, none⟩ = some (.string (⟨#[]⟩ : ByteArray)) := (blk_cell BK272.out 0).trans rfl; have hcz85_1 : w83.cell? ⟨gb272, 1, none⟩ = some (.string (⟨#[]⟩ : ByteArray)) := (blk_cell BK272.out 1).trans rfl; have hcz85_2 : w83.cell? ⟨gb272, 2, none⟩ = some (.string (⟨#[]⟩ : ByteArray)) := (blk_cell BK272.out 2).trans rfl; have hfz85_0 := blk_frozen BK272.out 0; have hfz85_1 := blk_frozen BK272.out 1; have hfz85_2 := blk_frozen BK272.out 2) | ((with_reducible refine gate_callee (f := 14) rfl ?_); refine goesL_ (some 115) rfl rfl Tryd.func14 (by kernel_rfl) rfl #[.string (⟨#[84, 111]⟩ : ByteArray), .string (((⟨#[44, 32]⟩ : ByteArray) ++ t267) ++ t267)] rfl ml ?_; (with_reducible refine (head_Lay.calls kj2 (⟨#[84, 111]⟩ : ByteArray) (((⟨#[44, 32]⟩ : ByteArray) ++ t267) ++ t267) t273 t274 t275 t276 _ ?side1 A39.out).mono ?_); (case side1 => exact Glob.below HG.out bl); rintro e w86 ⟨rfl, hb⟩; refine ⟨_, rfl, ?_⟩; have n0_ := Aside0.mk (Kd.R_below (by (with_reducible repeat (first | apply Kd.R_alloc | apply Kd.R_drewN | apply Kd.R_drew)); exact (Kd.R_mono (Kd.R_far (p := ⟨gb272, 2, none⟩) (Kd.R_far (p := ⟨gb272, 1, none⟩) (Kd.R_far (p := ⟨gb272, 0, none⟩) (Kd.R_mono HO_256000.out (fun k_ hk => (⟨hk, hk.2⟩ : _ ∧ k_ ≠ gb272))) (fun _ hk => hk.2) (.string t268)) (fun _ hk => hk.2) (.string t269)) (fun _ hk => hk.2) (.string t270)) (fun _ h_ => h_.1))) hb); have n1_ := Aside0.mk (kb BK255.out hb); have n2_ := Aside0.mk (blk_below (g := gb272) (o := .cells #[.string t268, .string t269, .string t270] 41 (0, 0)) (by (with_reducible repeat (first | refine blk_drewN ?_ _ | refine blk_drew ?_ | refine blk_alloc ?_ _)); refine blk_put (cs := #[.string t268, .string t269, .string (⟨#[]⟩ : ByteArray)]) ?_ 2 _ rfl; (with_reducible repeat (first | refine blk_drewN ?_ _ | refine blk_drew ?_ | refine blk_alloc ?_ _)); refine blk_put (cs := #[.string t268, .string (⟨#[]⟩ : ByteArray), .string (⟨#[]⟩ : ByteArray)]) ?_ 1 _ rfl; (with_reducible repeat (first | refine blk_drewN ?_ _ | refine blk_drew ?_ | refine blk_alloc ?_ _)); refine blk_put (cs := #[.string (⟨#[]⟩ : ByteArray), .string (⟨#[]⟩ : ByteArray), .string (⟨#[]⟩ : ByteArray)]) ?_ 0 _ rfl; (with_reducible repeat (first | refine blk_drewN ?_ _ | refine blk_drew ?_ | refine blk_alloc ?_ _)); exact BK272.out) hb); have n3_ := Aside0.mk (below_step bl hb); clear HO_256000; clear BK255; clear BK272; clear HB; have HO_256000 := n0_; have BK255 := n1_; have BK272 := n2_; have HB := n3_; clear n0_ n1_ n2_ n3_; (try clear hb); (try clear hb2); (try clear hk); (try clear hi)) | ((with_reducible refine gate_dst (N := 10) rfl ?_); (try (refine gate_guard (by rfl) ?_; dsimp only)); refine box_event ?hg (N := 10) ?hd (cs := #[.string (⟨#[]⟩ : ByteArray), .string (⟨#[]⟩ : ByteArray), .string (⟨#[]⟩ : ByteArray)]) (t := 41) ?hr ?_; (case hd => rfl); (case hg => rfl); (case hr => first | (go_simp; done) | (go_simp; rfl)); intro gb277 hg w87 hbox hb; have n0_ := Aside0.mk (Kd.R_below (Kd.R_elderB (kr HO_256000.out) gb277 (Nat.le_of_eq hg.symm)) hb); have n1_ := Aside0.mk (kb BK255.out hb); have n2_ := Aside0.mk (kb BK272.out hb); have n3_ := Aside0.mk (below_step bl hb); have n4_ := Aside0.mk (hbox); have n5_ := Aside0.mk ((by rw [hg]; exact (below_size bl) : w.heap.size ≤ gb277)); have n6_ := Aside0.mk ((by rw [hg]; exact (below_size bl) : w.heap.size ≤ gb277)); have n7_ := Aside0.mk ((by rw [hg]; exact Nat.ne_of_lt (blk_lt (bk BK255.out)) : gb255 ≠ gb277)); have n8_ := Aside0.mk ((by rw [hg]; exact Nat.ne_of_gt (blk_lt (bk BK255.out)) : gb277 ≠ gb255)); have n9_ := Aside0.mk ((by rw [hg]; exact Nat.ne_of_lt (blk_lt (bk BK272.out)) : gb272 ≠ gb277)); have n10_ := Aside0.mk ((by rw [hg]; exact Nat.ne_of_gt (blk_lt (bk BK272.out)) : gb277 ≠ gb272)); clear HO_256000; clear BK255; clear BK272; clear HB; have HO_256000 := n0_; have BK255 := n1_; have BK272 := n2_; have HB := n3_; have BK277 := n4_; have GW277 := n5_; have GE277 := n6_; have NB255_277 := n7_; have NB277_255 := n8_; have NB272_277 := n9_; have NB277_272 := n10_; clear n0_ n1_ n2_ n3_ n4_ n5_ n6_ n7_ n8_ n9_ n10_; clear hb hbox hg; have hnb88 := NB277_255.out; have hnc88 := NB255_277.out; have hnb89 := NB277_272.out; have hnc89 := NB272_277.out; have hcz90_0 : w87.cell? ⟨gb277, 0, none⟩ = some (.string (⟨#[]⟩ : ByteArray)) := (blk_cell BK277.out 0).trans rfl; have hcz90_1 : w87.cell? ⟨gb277, 1, none⟩ = some (.string (⟨#[]⟩ : ByteArray)) := (blk_cell BK277.out 1).trans rfl; have hcz90_2 : w87.cell? ⟨gb277, 2, none⟩ = some (.string (⟨#[]⟩ : ByteArray)) := (blk_cell BK277.out 2).trans rfl; have hfz90_0 := blk_frozen BK277.out 0; have hfz90_1 := blk_frozen BK277.out 1; have hfz90_2 := blk_frozen BK277.out 2) | ((with_reducible refine gate_callee (f := 38) rfl ?_); refine goesL_ (some 119) rfl rfl Tryd.func38 (by kernel_rfl) rfl #[.string (⟨#[121]⟩ : ByteArray), .int .i64 74] rfl ml ?_; (with_reducible refine (strings_Repeat.calls (⟨#[121]⟩ : ByteArray) 74 t278 _ A40.out).mono ?_); rintro e w91 ⟨rfl, hb⟩; refine ⟨_, rfl, ?_⟩; have n0_ := Aside0.mk (Kd.R_below (by (with_reducible repeat (first | apply Kd.R_alloc | apply Kd.R_drewN | apply Kd.R_drew)); exact (Kd.R_mono (Kd.R_far (p := ⟨gb277, 2, none⟩) (Kd.R_far (p := ⟨gb277, 1, none⟩) (Kd.R_far (p := ⟨gb277, 0, none⟩) (Kd.R_mono HO_256000.out (fun k_ hk => (⟨hk, hk.2⟩ : _ ∧ k_ ≠ gb277))) (fun _ hk => hk.2) (.string t273)) (fun _ hk => hk.2) (.string t274)) (fun _ hk => hk.2) (.string t275)) (fun _ h_ => h_.1))) hb); have n1_ := Aside0.mk (kb BK255.out hb); have n2_ := Aside0.mk (kb BK272.out hb); have n3_ := Aside0.mk (blk_below (g := gb277) (o := .cells #[.string t273, .string t274, .string t275] 41 (0, 0)) (by (with_reducible repeat (first | refine blk_drewN ?_ _ | refine blk_drew ?_ | refine blk_alloc ?_ _)); refine blk_put (cs := #[.string t273, .string t274, .string (⟨#[]⟩ : ByteArray)]) ?_ 2 _ rfl; (with_reducible repeat (first | refine blk_drewN ?_ _ | refine blk_drew ?_ | refine blk_alloc ?_ _)); refine blk_put (cs := #[.string t273, .string (⟨#[]⟩ : ByteArray), .string (⟨#[]⟩ : ByteArray)]) ?_ 1 _ rfl; (with_reducible repeat (first | refine blk_drewN ?_ _ | refine blk_drew ?_ | refine blk_alloc ?_ _)); refine blk_put (cs := #[.string (⟨#[]⟩ : ByteArray), .string (⟨#[]⟩ : ByteArray), .string (⟨#[]⟩ : ByteArray)]) ?_ 0 _ rfl; (with_reducible repeat (first | refine blk_drewN ?_ _ | refine blk_drew ?_ | refine blk_alloc ?_ _)); exact BK277.out) hb); have n4_ := Aside0.mk (below_step bl hb); clear HO_256000; clear BK255; clear BK272; clear BK277; clear HB; have HO_256000 := n0_; have BK255 := n1_; have BK272 := n2_; have BK277 := n3_; have HB := n4_; clear n0_ n1_ n2_ n3_ n4_; (try clear hb); (try clear hb2); (try clear hk); (try clear hi)) | ((with_reducible refine gate_callee (f := 14) rfl ?_); refine goesL_ (some 121) rfl rfl Tryd.func14 (by kernel_rfl) rfl #[.string (⟨#[84, 111]⟩ : ByteArray), .string (t278 ++ (⟨#[44, 32, 122]⟩ : ByteArray))] rfl ml ?_; (with_reducible refine (head_Lay.calls kj2 (⟨#[84, 111]⟩ : ByteArray) (t278 ++ (⟨#[44, 32, 122]⟩ : ByteArray)) t279 t280 t281 t282 _ ?side1 A42.out).mono ?_); (case side1 => exact Glob.below HG.out bl); rintro e w92 ⟨rfl, hb⟩; refine ⟨_, rfl, ?_⟩; have n0_ := Aside0.mk (Kd.R_below (kr HO_256000.out) hb); have n1_ := Aside0.mk (kb BK255.out hb); have n2_ := Aside0.mk (kb BK272.out hb); have n3_ := Aside0.mk (kb BK277.out hb); have n4_ := Aside0.mk (below_step bl hb); clear HO_256000; clear BK255; clear BK272; clear BK277; clear HB; have HO_256000 := n0_; have BK255 := n1_; have BK272 := n2_; have BK277 := n3_; have HB := n4_; clear n0_ n1_ n2_ n3_ n4_; (try clear hb); (try clear hb2); (try clear hk); (try clear hi)) | ((with_reducible refine gate_dst (N := 12) rfl ?_); (try (refine gate_guard (by rfl) ?_; dsimp only)); refine box_event ?hg (N := 12) ?hd (cs := #[.string (⟨#[]⟩ : ByteArray), .string (⟨#[]⟩ : ByteArray), .string (⟨#[]⟩ : ByteArray)]) (t := 41) ?hr ?_; (case hd => rfl); (case hg => rfl); (case hr => first | (go_simp; done) | (go_simp; rfl)); intro gb283 hg w93 hbox hb; have n0_ := Aside0.mk (Kd.R_below (Kd.R_elderB (kr HO_256000.out) gb283 (Nat.le_of_eq hg.symm)) hb); have n1_ := Aside0.mk (kb BK255.out hb); have n2_ := Aside0.mk (kb BK272.out hb); have n3_ := Aside0.mk (kb BK277.out hb); have n4_ := Aside0.mk (below_step bl hb); have n5_ := Aside0.mk (hbox); have n6_ := Aside0.mk ((by rw [hg]; exact (below_size bl) : w.heap.size ≤ gb283)); have n7_ := Aside0.mk ((by rw [hg]; exact (below_size bl) : w.heap.size ≤ gb283)); have n8_ := Aside0.mk ((by rw [hg]; exact Nat.ne_of_lt (blk_lt (bk BK255.out)) : gb255 ≠ gb283)); have n9_ := Aside0.mk ((by rw [hg]; exact Nat.ne_of_gt (blk_lt (bk BK255.out)) : gb283 ≠ gb255)); have n10_ := Aside0.mk ((by rw [hg]; exact Nat.ne_of_lt (blk_lt (bk BK272.out)) : gb272 ≠ gb283)); have n11_ := Aside0.mk ((by rw [hg]; exact Nat.ne_of_gt (blk_lt (bk BK272.out)) : gb283 ≠ gb272)); have n12_ := Aside0.mk ((by rw [hg]; exact Nat.ne_of_lt (blk_lt (bk BK277.out)) : gb277 ≠ gb283)); have n13_ := Aside0.mk ((by rw [hg]; exact Nat.ne_of_gt (blk_lt (bk BK277.out)) : gb283 ≠ gb277)); clear HO_256000; clear BK255; clear BK272; clear BK277; clear HB; have HO_256000 := n0_; have BK255 := n1_; have BK272 := n2_; have BK277 := n3_; have HB := n4_; have BK283 := n5_; have GW283 := n6_; have GE283 := n7_; have NB255_283 := n8_; have NB283_255 := n9_; have NB272_283 := n10_; have NB283_272 := n11_; have NB277_283 := n12_; have NB283_277 := n13_; clear n0_ n1_ n2_ n3_ n4_ n5_ n6_ n7_ n8_ n9_ n10_ n11_ n12_ n13_; clear hb hbox hg; have hnb94 := NB283_255.out; have hnc94 := NB255_283.out; have hnb95 := NB283_272.out; have hnc95 := NB272_283.out; have hnb96 := NB283_277.out; have hnc96 := NB277_283.out; have hcz97_0 : w93.cell? ⟨gb283, 0, none⟩ = some (.string (⟨#[]⟩ : ByteArray)) := (blk_cell BK283.out 0).trans rfl; have hcz97_1 : w93.cell? ⟨gb283, 1, none⟩ = some (.string (⟨#[]⟩ : ByteArray)) := (blk_cell BK283.out 1).trans rfl; have hcz97_2 : w93.cell? ⟨gb283, 2, none⟩ = some (.string (⟨#[]⟩ : ByteArray)) := (blk_cell BK283.out 2).trans rfl; have hfz97_0 := blk_frozen BK283.out 0; have hfz97_1 := blk_frozen BK283.out 1; have hfz97_2 := blk_frozen BK283.out 2) | ((with_reducible refine gate_callee (f := 38) rfl ?_); refine goesL_ (some 125) rfl rfl Tryd.func38 (by kernel_rfl) rfl #[.string (⟨#[121]⟩ : ByteArray), .int .i64 73] rfl ml ?_; (with_reducible refine (strings_Repeat.calls (⟨#[121]⟩ : ByteArray) 73 t284 _ A43.out).mono ?_); rintro e w98 ⟨rfl, hb⟩; refine ⟨_, rfl, ?_⟩; have n0_ := Aside0.mk (Kd.R_below (by (with_reducible repeat (first | apply Kd.R_alloc | apply Kd.R_drewN | apply Kd.R_drew)); exact (Kd.R_mono (Kd.R_far (p := ⟨gb283, 2, none⟩) (Kd.R_far (p := ⟨gb283, 1, none⟩) (Kd.R_far (p := ⟨gb283, 0, none⟩) (Kd.R_mono HO_256000.out (fun k_ hk => (⟨hk, hk.2⟩ : _ ∧ k_ ≠ gb283))) (fun _ hk => hk.2) (.string t279)) (fun _ hk => hk.2) (.string t280)) (fun _ hk => hk.2) (.string t281)) (fun _ h_ => h_.1))) hb); have n1_ := Aside0.mk (kb BK255.out hb); have n2_ := Aside0.mk (kb BK272.out hb); have n3_ := Aside0.mk (kb BK277.out hb); have n4_ := Aside0.mk (blk_below (g := gb283) (o := .cells #[.string t279, .string t280, .string t281] 41 (0, 0)) (by (with_reducible repeat (first | refine blk_drewN ?_ _ | refine blk_drew ?_ | refine blk_alloc ?_ _)); refine blk_put (cs := #[.string t279, .string t280, .string (⟨#[]⟩ : ByteArray)]) ?_ 2 _ rfl; (with_reducible repeat (first | refine blk_drewN ?_ _ | refine blk_drew ?_ | refine blk_alloc ?_ _)); refine blk_put (cs := #[.string t279, .string (⟨#[]⟩ : ByteArray), .string (⟨#[]⟩ : ByteArray)]) ?_ 1 _ rfl; (with_reducible repeat (first | refine blk_drewN ?_ _ | refine blk_drew ?_ | refine blk_alloc ?_ _)); refine blk_put (cs := #[.string (⟨#[]⟩ : ByteArray), .string (⟨#[]⟩ : ByteArray), .string (⟨#[]⟩ : ByteArray)]) ?_ 0 _ rfl; (with_reducible repeat (first | refine blk_drewN ?_ _ | refine blk_drew ?_ | refine blk_alloc ?_ _)); exact BK283.out) hb); have n5_ := Aside0.mk (below_step bl hb); clear HO_256000; clear BK255; clear BK272; clear BK277; clear BK283; clear HB; have HO_256000 := n0_; have BK255 := n1_; have BK272 := n2_; have BK277 := n3_; have BK283 := n4_; have HB := n5_; clear n0_ n1_ n2_ n3_ n4_ n5_; (try clear hb); (try clear hb2); (try clear hk); (try clear hi)) | ((with_reducible refine gate_callee (f := 14) rfl ?_); refine goesL_ (some 127) rfl rfl Tryd.func14 (by kernel_rfl) rfl #[.string (⟨#[84, 111]⟩ : ByteArray), .string (t284 ++ (⟨#[44, 32, 122]⟩ : ByteArray))] rfl ml ?_; (with_reducible refine (head_Lay.calls kj2 (⟨#[84, 111]⟩ : ByteArray) (t284 ++ (⟨#[44, 32, 122]⟩ : ByteArray)) t285 t286 t287 t288 _ ?side1 A45.out).mono ?_); (case side1 => exact Glob.below HG.out bl); rintro e w99 ⟨rfl, hb⟩; refine ⟨_, rfl, ?_⟩; have n0_ := Aside0.mk (Kd.R_below (kr HO_256000.out) hb); have n1_ := Aside0.mk (kb BK255.out hb); have n2_ := Aside0.mk (kb BK272.out hb); have n3_ := Aside0.mk (kb BK277.out hb); have n4_ := Aside0.mk (kb BK283.out hb); have n5_ := Aside0.mk (below_step bl hb); clear HO_256000; clear BK255; clear BK272; clear BK277; clear BK283; clear HB; have HO_256000 := n0_; have BK255 := n1_; have BK272 := n2_; have BK277 := n3_; have BK283 := n4_; have HB := n5_; clear n0_ n1_ n2_ n3_ n4_ n5_; (try clear hb); (try clear hb2); (try clear hk); (try clear hi)) | ((with_reducible refine gate_dst (N := 14) rfl ?_); (try (refine gate_guard (by rfl) ?_; dsimp only)); refine box_event ?hg (N := 14) ?hd (cs := #[.string (⟨#[]⟩ : ByteArray), .string (⟨#[]⟩ : ByteArray), .string (⟨#[]⟩ : ByteArray)]) (t := 41) ?hr ?_; (case hd => rfl); (case hg => rfl); (case hr => first | (go_simp; done) | (go_simp; rfl)); intro gb289 hg w100 hbox hb; have n0_ := Aside0.mk (Kd.R_below (Kd.R_elderB (kr HO_256000.out) gb289 (Nat.le_of_eq hg.symm)) hb); have n1_ := Aside0.mk (kb BK255.out hb); have n2_ := Aside0.mk (kb BK272.out hb); have n3_ := Aside0.mk (kb BK277.out hb); have n4_ := Aside0.mk (kb BK283.out hb); have n5_ := Aside0.mk (below_step bl hb); have n6_ := Aside0.mk (hbox); have n7_ := Aside0.mk ((by rw [hg]; exact (below_size bl) : w.heap.size ≤ gb289)); have n8_ := Aside0.mk ((by rw [hg]; exact (below_size bl) : w.heap.size ≤ gb289)); have n9_ := Aside0.mk ((by rw [hg]; exact Nat.ne_of_lt (blk_lt (bk BK255.out)) : gb255 ≠ gb289)); have n10_ := Aside0.mk ((by rw [hg]; exact Nat.ne_of_gt (blk_lt (bk BK255.out)) : gb289 ≠ gb255)); have n11_ := Aside0.mk ((by rw [hg]; exact Nat.ne_of_lt (blk_lt (bk BK272.out)) : gb272 ≠ gb289)); have n12_ := Aside0.mk ((by rw [hg]; exact Nat.ne_of_gt (blk_lt (bk BK272.out)) : gb289 ≠ gb272)); have n13_ := Aside0.mk ((by rw [hg]; exact Nat.ne_of_lt (blk_lt (bk BK277.out)) : gb277 ≠ gb289)); have n14_ := Aside0.mk ((by rw [hg]; exact Nat.ne_of_gt (blk_lt (bk BK277.out)) : gb289 ≠ gb277)); have n15_ := Aside0.mk ((by rw [hg]; exact Nat.ne_of_lt (blk_lt (bk BK283.out)) : gb283 ≠ gb289)); have n16_ := Aside0.mk ((by rw [hg]; exact Nat.ne_of_gt (blk_lt (bk BK283.out)) : gb289 ≠ gb283)); clear HO_256000; clear BK255; clear BK272; clear BK277; clear BK283; clear HB; have HO_256000 := n0_; have BK255 := n1_; have BK272 := n2_; have BK277 := n3_; have BK283 := n4_; have HB := n5_; have BK289 := n6_; have GW289 := n7_; have GE289 := n8_; have NB255_289 := n9_; have NB289_255 := n10_; have NB272_289 := n11_; have NB289_272 := n12_; have NB277_289 := n13_; have NB289_277 := n14_; have NB283_289 := n15_; have NB289_283 := n16_; clear n0_ n1_ n2_ n3_ n4_ n5_ n6_ n7_ n8_ n9_ n10_ n11_ n12_ n13_ n14_ n15_ n16_; clear hb hbox hg; have hnb101 := NB289_255.out; have hnc101 := NB255_289.out; have hnb102 := NB289_272.out; have hnc102 := NB272_289.out; have hnb103 := NB289_277.out; have hnc103 := NB277_289.out; have hnb104 := NB289_283.out; have hnc104 := NB283_289.out; have hcz105_0 : w100.cell? ⟨gb289, 0, none⟩ = some (.string (⟨#[]⟩ : ByteArray)) := (blk_cell BK289.out 0).trans rfl; have hcz105_1 : w100.cell? ⟨gb289, 1, none⟩ = some (.string (⟨#[]⟩ : ByteArray)) := (blk_cell BK289.out 1).trans rfl; have hcz105_2 : w100.cell? ⟨gb289, 2, none⟩ = some (.string (⟨#[]⟩ : ByteArray)) := (blk_cell BK289.out 2).trans rfl; have hfz105_0 := blk_frozen BK289.out 0; have hfz105_1 := blk_frozen BK289.out 1; have hfz105_2 := blk_frozen BK289.out 2) | ((with_reducible refine gate_callee (f := 14) rfl ?_); refine goesL_ (some 131) rfl rfl Tryd.func14 (by kernel_rfl) rfl #[.string (⟨#[84, 32, 111]⟩ : ByteArray), .string (⟨#[]⟩ : ByteArray)] rfl ml ?_; (with_reducible refine (head_Lay.calls kj2 (⟨#[84, 32, 111]⟩ : ByteArray) (⟨#[]⟩ : ByteArray) t290 t291 t292 t293 _ ?side1 A46.out).mono ?_); (case side1 => exact Glob.below HG.out bl); rintro e w106 ⟨rfl, hb⟩; refine ⟨_, rfl, ?_⟩; have n0_ := Aside0.mk (Kd.R_below (by (with_reducible repeat (first | apply Kd.R_alloc | apply Kd.R_drewN | apply Kd.R_drew)); exact (Kd.R_mono (Kd.R_far (p := ⟨gb289, 2, none⟩) (Kd.R_far (p := ⟨gb289, 1, none⟩) (Kd.R_far (p := ⟨gb289, 0, none⟩) (Kd.R_mono HO_256000.out (fun k_ hk => (⟨hk, hk.2⟩ : _ ∧ k_ ≠ gb289))) (fun _ hk => hk.2) (.string t285)) (fun _ hk => hk.2) (.string t286)) (fun _ hk => hk.2) (.string t287)) (fun _ h_ => h_.1))) hb); have n1_ := Aside0.mk (kb BK255.out hb); have n2_ := Aside0.mk (kb BK272.out hb); have n3_ := Aside0.mk (kb BK277.out hb); have n4_ := Aside0.mk (kb BK283.out hb); have n5_ := Aside0.mk (blk_below (g := gb289) (o := .cells #[.string t285, .string t286, .string t287] 41 (0, 0)) (by (with_reducible repeat (first | refine blk_drewN ?_ _ | refine blk_drew ?_ | refine blk_alloc ?_ _)); refine blk_put (cs := #[.string t285, .string t286, .string (⟨#[]⟩ : ByteArray)]) ?_ 2 _ rfl; (with_reducible repeat (first | refine blk_drewN ?_ _ | refine blk_drew ?_ | refine blk_alloc ?_ _)); refine blk_put (cs := #[.string t285, .string (⟨#[]⟩ : ByteArray), .string (⟨#[]⟩ : ByteArray)]) ?_ 1 _ rfl; (with_reducible repeat (first | refine blk_drewN ?_ _ | refine blk_drew ?_ | refine blk_alloc ?_ _)); refine blk_put (cs := #[.string (⟨#[]⟩ : ByteArray), .string (⟨#[]⟩ : ByteArray), .string (⟨#[]⟩ : ByteArray)]) ?_ 0 _ rfl; (with_reducible repeat (first | refine blk_drewN ?_ _ | refine blk_drew ?_ | refine blk_alloc ?_ _)); exact BK289.out) hb); have n6_ := Aside0.mk (below_step bl hb); clear HO_256000; clear BK255; clear BK272; clear BK277; clear BK283; clear BK289; clear HB; have HO_256000 := n0_; have BK255 := n1_; have BK272 := n2_; have BK277 := n3_; have BK283 := n4_; have BK289 := n5_; have HB := n6_; clear n0_ n1_ n2_ n3_ n4_ n5_ n6_; (try clear hb); (try clear hb2); (try clear hk); (try clear hi)) | ((with_reducible refine gate_dst (N := 16) rfl ?_); (try (refine gate_guard (by rfl) ?_; dsimp only)); refine box_event ?hg (N := 16) ?hd (cs := #[.string (⟨#[]⟩ : ByteArray), .string (⟨#[]⟩ : ByteArray), .string (⟨#[]⟩ : ByteArray)]) (t := 41) ?hr ?_; (case hd => rfl); (case hg => rfl); (case hr => first | (go_simp; done) | (go_simp; rfl)); intro gb294 hg w107 hbox hb; have n0_ := Aside0.mk (Kd.R_below (Kd.R_elderB (kr HO_256000.out) gb294 (Nat.le_of_eq hg.symm)) hb); have n1_ := Aside0.mk (kb BK255.out hb); have n2_ := Aside0.mk (kb BK272.out hb); have n3_ := Aside0.mk (kb BK277.out hb); have n4_ := Aside0.mk (kb BK283.out hb); have n5_ := Aside0.mk (kb BK289.out hb); have n6_ := Aside0.mk (below_step bl hb); have n7_ := Aside0.mk (hbox); have n8_ := Aside0.mk ((by rw [hg]; exact (below_size bl) : w.heap.size ≤ gb294)); have n9_ := Aside0.mk ((by rw [hg]; exact (below_size bl) : w.heap.size ≤ gb294)); have n10_ := Aside0.mk ((by rw [hg]; exact Nat.ne_of_lt (blk_lt (bk BK255.out)) : gb255 ≠ gb294)); have n11_ := Aside0.mk ((by rw [hg]; exact Nat.ne_of_gt (blk_lt (bk BK255.out)) : gb294 ≠ gb255)); have n12_ := Aside0.mk ((by rw [hg]; exact Nat.ne_of_lt (blk_lt (bk BK272.out)) : gb272 ≠ gb294)); have n13_ := Aside0.mk ((by rw [hg]; exact Nat.ne_of_gt (blk_lt (bk BK272.out)) : gb294 ≠ gb272)); have n14_ := Aside0.mk ((by rw [hg]; exact Nat.ne_of_lt (blk_lt (bk BK277.out)) : gb277 ≠ gb294)); have n15_ := Aside0.mk ((by rw [hg]; exact Nat.ne_of_gt (blk_lt (bk BK277.out)) : gb294 ≠ gb277)); have n16_ := Aside0.mk ((by rw [hg]; exact Nat.ne_of_lt (blk_lt (bk BK283.out)) : gb283 ≠ gb294)); have n17_ := Aside0.mk ((by rw [hg]; exact Nat.ne_of_gt (blk_lt (bk BK283.out)) : gb294 ≠ gb283)); have n18_ := Aside0.mk ((by rw [hg]; exact Nat.ne_of_lt (blk_lt (bk BK289.out)) : gb289 ≠ gb294)); have n19_ := Aside0.mk ((by rw [hg]; exact Nat.ne_of_gt (blk_lt (bk BK289.out)) : gb294 ≠ gb289)); clear HO_256000; clear BK255; clear BK272; clear BK277; clear BK283; clear BK289; clear HB; have HO_256000 := n0_; have BK255 := n1_; have BK272 := n2_; have BK277 := n3_; have BK283 := n4_; have BK289 := n5_; have HB := n6_; have BK294 := n7_; have GW294 := n8_; have GE294 := n9_; have NB255_294 := n10_; have NB294_255 := n11_; have NB272_294 := n12_; have NB294_272 := n13_; have NB277_294 := n14_; have NB294_277 := n15_; have NB283_294 := n16_; have NB294_283 := n17_; have NB289_294 := n18_; have NB294_289 := n19_; clear n0_ n1_ n2_ n3_ n4_ n5_ n6_ n7_ n8_ n9_ n10_ n11_ n12_ n13_ n14_ n15_ n16_ n17_ n18_ n19_; clear hb hbox hg; have hnb108 := NB294_255.out; have hnc108 := NB255_294.out; have hnb109 := NB294_272.out; have hnc109 := NB272_294.out; have hnb110 := NB294_277.out; have hnc110 := NB277_294.out; have hnb111 := NB294_283.out; have hnc111 := NB283_294.out; have hnb112 := NB294_289.out; have hnc112 := NB289_294.out; have hcz113_0 : w107.cell? ⟨gb294, 0, none⟩ = some (.string (⟨#[]⟩ : ByteArray)) := (blk_cell BK294.out 0).trans rfl; have hcz113_1 : w107.cell? ⟨gb294, 1, none⟩ = some (.string (⟨#[]⟩ : ByteArray)) := (blk_cell BK294.out 1).trans rfl; have hcz113_2 : w107.cell? ⟨gb294, 2, none⟩ = some (.string (⟨#[]⟩ : ByteArray)) := (blk_cell BK294.out 2).trans rfl; have hfz113_0 := blk_frozen BK294.out 0; have hfz113_1 := blk_frozen BK294.out 1; have hfz113_2 := blk_frozen BK294.out 2) | ((with_reducible refine gate_callee (f := 14) rfl ?_); refine goesL_ (some 135) rfl rfl Tryd.func14 (by kernel_rfl) rfl #[.string (⟨#[]⟩ : ByteArray), .string (⟨#[120]⟩ : ByteArray)] rfl ml ?_; (with_reducible refine (head_Lay.calls kj2 (⟨#[]⟩ : ByteArray) (⟨#[120]⟩ : ByteArray) t295 t296 t297 t298 _ ?side1 A47.out).mono ?_); (case side1 => exact Glob.below HG.out bl); rintro e w114 ⟨rfl, hb⟩; refine ⟨_, rfl, ?_⟩; have n0_ := Aside0.mk (Kd.R_below (by (with_reducible repeat (first | apply Kd.R_alloc | apply Kd.R_drewN | apply Kd.R_drew)); exact (Kd.R_mono (Kd.R_far (p := ⟨gb294, 2, none⟩) (Kd.R_far (p := ⟨gb294, 1, none⟩) (Kd.R_far (p := ⟨gb294, 0, none⟩) (Kd.R_mono HO_256000.out (fun k_ hk => (⟨hk, hk.2⟩ : _ ∧ k_ ≠ gb294))) (fun _ hk => hk.2) (.string t290)) (fun _ hk => hk.2) (.string t291)) (fun _ hk => hk.2) (.string t292)) (fun _ h_ => h_.1))) hb); have n1_ := Aside0.mk (kb BK255.out hb); have n2_ := Aside0.mk (kb BK272.out hb); have n3_ := Aside0.mk (kb BK277.out hb); have n4_ := Aside0.mk (kb BK283.out hb); have n5_ := Aside0.mk (kb BK289.out hb); have n6_ := Aside0.mk (blk_below (g := gb294) (o := .cells #[.string t290, .string t291, .string t292] 41 (0, 0)) (by (with_reducible repeat (first | refine blk_drewN ?_ _ | refine blk_drew ?_ | refine blk_alloc ?_ _)); refine blk_put (cs := #[.string t290, .string t291, .string (⟨#[]⟩ : ByteArray)]) ?_ 2 _ rfl; (with_reducible repeat (first | refine blk_drewN ?_ _ | refine blk_drew ?_ | refine blk_alloc ?_ _)); refine blk_put (cs := #[.string t290, .string (⟨#[]⟩ : ByteArray), .string (⟨#[]⟩ : ByteArray)]) ?_ 1 _ rfl; (with_reducible repeat (first | refine blk_drewN ?_ _ | refine blk_drew ?_ | refine blk_alloc ?_ _)); refine blk_put (cs := #[.string (⟨#[]⟩ : ByteArray), .string (⟨#[]⟩ : ByteArray), .string (⟨#[]⟩ : ByteArray)]) ?_ 0 _ rfl; (with_reducible repeat (first | refine blk_drewN ?_ _ | refine blk_drew ?_ | refine blk_alloc ?_ _)); exact BK294.out) hb); have n7_ := Aside0.mk (below_step bl hb); clear HO_256000; clear BK255; clear BK272; clear BK277; clear BK283; clear BK289; clear BK294; clear HB; have HO_256000 := n0_; have BK255 := n1_; have BK272 := n2_; have BK277 := n3_; have BK283 := n4_; have BK289 := n5_; have BK294 := n6_; have HB := n7_; clear n0_ n1_ n2_ n3_ n4_ n5_ n6_ n7_; (try clear hb); (try clear hb2); (try clear hk); (try clear hi)) | ((with_reducible refine gate_dst (N := 18) rfl ?_); (try (refine gate_guard (by rfl) ?_; dsimp only)); refine box_event ?hg (N := 18) ?hd (cs := #[.string (⟨#[]⟩ : ByteArray), .string (⟨#[]⟩ : ByteArray), .string (⟨#[]⟩ : ByteArray)]) (t := 41) ?hr ?_; (case hd => rfl); (case hg => rfl); (case hr => first | (go_simp; done) | (go_simp; rfl)); intro gb299 hg w115 hbox hb; have n0_ := Aside0.mk (Kd.R_below (Kd.R_elderB (kr HO_256000.out) gb299 (Nat.le_of_eq hg.symm)) hb); have n1_ := Aside0.mk (kb BK255.out hb); have n2_ := Aside0.mk (kb BK272.out hb); have n3_ := Aside0.mk (kb BK277.out hb); have n4_ := Aside0.mk (kb BK283.out hb); have n5_ := Aside0.mk (kb BK289.out hb); have n6_ := Aside0.mk (kb BK294.out hb); have n7_ := Aside0.mk (below_step bl hb); have n8_ := Aside0.mk (hbox); have n9_ := Aside0.mk ((by rw [hg]; exact (below_size bl) : w.heap.size ≤ gb299)); have n10_ := Aside0.mk ((by rw [hg]; exact (below_size bl) : w.heap.size ≤ gb299)); have n11_ := Aside0.mk ((by rw [hg]; exact Nat.ne_of_lt (blk_lt (bk BK255.out)) : gb255 ≠ gb299)); have n12_ := Aside0.mk ((by rw [hg]; exact Nat.ne_of_gt (blk_lt (bk BK255.out)) : gb299 ≠ gb255)); have n13_ := Aside0.mk ((by rw [hg]; exact Nat.ne_of_lt (blk_lt (bk BK272.out)) : gb272 ≠ gb299)); have n14_ := Aside0.mk ((by rw [hg]; exact Nat.ne_of_gt (blk_lt (bk BK272.out)) : gb299 ≠ gb272)); have n15_ := Aside0.mk ((by rw [hg]; exact Nat.ne_of_lt (blk_lt (bk BK277.out)) : gb277 ≠ gb299)); have n16_ := Aside0.mk ((by rw [hg]; exact Nat.ne_of_gt (blk_lt (bk BK277.out)) : gb299 ≠ gb277)); have n17_ := Aside0.mk ((by rw [hg]; exact Nat.ne_of_lt (blk_lt (bk BK283.out)) : gb283 ≠ gb299)); have n18_ := Aside0.mk ((by rw [hg]; exact Nat.ne_of_gt (blk_lt (bk BK283.out)) : gb299 ≠ gb283)); have n19_ := Aside0.mk ((by rw [hg]; exact Nat.ne_of_lt (blk_lt (bk BK289.out)) : gb289 ≠ gb299)); have n20_ := Aside0.mk ((by rw [hg]; exact Nat.ne_of_gt (blk_lt (bk BK289.out)) : gb299 ≠ gb289)); have n21_ := Aside0.mk ((by rw [hg]; exact Nat.ne_of_lt (blk_lt (bk BK294.out)) : gb294 ≠ gb299)); have n22_ := Aside0.mk ((by rw [hg]; exact Nat.ne_of_gt (blk_lt (bk BK294.out)) : gb299 ≠ gb294)); clear HO_256000; clear BK255; clear BK272; clear BK277; clear BK283; clear BK289; clear BK294; clear HB; have HO_256000 := n0_; have BK255 := n1_; have BK272 := n2_; have BK277 := n3_; have BK283 := n4_; have BK289 := n5_; have BK294 := n6_; have HB := n7_; have BK299 := n8_; have GW299 := n9_; have GE299 := n10_; have NB255_299 := n11_; have NB299_255 := n12_; have NB272_299 := n13_; have NB299_272 := n14_; have NB277_299 := n15_; have NB299_277 := n16_; have NB283_299 := n17_; have NB299_283 := n18_; have NB289_299 := n19_; have NB299_289 := n20_; have NB294_299 := n21_; have NB299_294 := n22_; clear n0_ n1_ n2_ n3_ n4_ n5_ n6_ n7_ n8_ n9_ n10_ n11_ n12_ n13_ n14_ n15_ n16_ n17_ n18_ n19_ n20_ n21_ n22_; clear hb hbox hg; have hnb116 := NB299_255.out; have hnc116 := NB255_299.out; have hnb117 := NB299_272.out; have hnc117 := NB272_299.out; have hnb118 := NB299_277.out; have hnc118 := NB277_299.out; have hnb119 := NB299_283.out; have hnc119 := NB283_299.out; have hnb120 := NB299_289.out; have hnc120 := NB289_299.out; have hnb121 := NB299_294.out; have hnc121 := NB294_299.out; have hcz122_0 : w115.cell? ⟨gb299, 0, none⟩ = some (.string (⟨#[]⟩ : ByteArray)) := (blk_cell BK299.out 0).trans rfl; have hcz122_1 : w115.cell? ⟨gb299, 1, none⟩ = some (.string (⟨#[]⟩ : ByteArray)) := (blk_cell BK299.out 1).trans rfl; have hcz122_2 : w115.cell? ⟨gb299, 2, none⟩ = some (.string (⟨#[]⟩ : ByteArray)) := (blk_cell BK299.out 2).trans rfl; have hfz122_0 := blk_frozen BK299.out 0; have hfz122_1 := blk_frozen BK299.out 1; have hfz122_2 := blk_frozen BK299.out 2) | ((with_reducible refine gate_callee (f := 14) rfl ?_); refine goesL_ (some 139) rfl rfl Tryd.func14 (by kernel_rfl) rfl #[.string (⟨#[120]⟩ : ByteArray), .string (⟨#[97, 10, 98]⟩ : ByteArray)] rfl ml ?_; (with_reducible refine (head_Lay.calls kj2 (⟨#[120]⟩ : ByteArray) (⟨#[97, 10, 98]⟩ : ByteArray) t300 t301 t302 t303 _ ?side1 A48.out).mono ?_); (case side1 => exact Glob.below HG.out bl); rintro e w123 ⟨rfl, hb⟩; refine ⟨_, rfl, ?_⟩; have n0_ := Aside0.mk (Kd.R_below (by (with_reducible repeat (first | apply Kd.R_alloc | apply Kd.R_drewN | apply Kd.R_drew)); exact (Kd.R_mono (Kd.R_far (p := ⟨gb299, 2, none⟩) (Kd.R_far (p := ⟨gb299, 1, none⟩) (Kd.R_far (p := ⟨gb299, 0, none⟩) (Kd.R_mono HO_256000.out (fun k_ hk => (⟨hk, hk.2⟩ : _ ∧ k_ ≠ gb299))) (fun _ hk => hk.2) (.string t295)) (fun _ hk => hk.2) (.string t296)) (fun _ hk => hk.2) (.string t297)) (fun _ h_ => h_.1))) hb); have n1_ := Aside0.mk (kb BK255.out hb); have n2_ := Aside0.mk (kb BK272.out hb); have n3_ := Aside0.mk (kb BK277.out hb); have n4_ := Aside0.mk (kb BK283.out hb); have n5_ := Aside0.mk (kb BK289.out hb); have n6_ := Aside0.mk (kb BK294.out hb); have n7_ := Aside0.mk (blk_below (g := gb299) (o := .cells #[.string t295, .string t296, .string t297] 41 (0, 0)) (by (with_reducible repeat (first | refine blk_drewN ?_ _ | refine blk_drew ?_ | refine blk_alloc ?_ _)); refine blk_put (cs := #[.string t295, .string t296, .string (⟨#[]⟩ : ByteArray)]) ?_ 2 _ rfl; (with_reducible repeat (first | refine blk_drewN ?_ _ | refine blk_drew ?_ | refine blk_alloc ?_ _)); refine blk_put (cs := #[.string t295, .string (⟨#[]⟩ : ByteArray), .string (⟨#[]⟩ : ByteArray)]) ?_ 1 _ rfl; (with_reducible repeat (first | refine blk_drewN ?_ _ | refine blk_drew ?_ | refine blk_alloc ?_ _)); refine blk_put (cs := #[.string (⟨#[]⟩ : ByteArray), .string (⟨#[]⟩ : ByteArray), .string (⟨#[]⟩ : ByteArray)]) ?_ 0 _ rfl; (with_reducible repeat (first | refine blk_drewN ?_ _ | refine blk_drew ?_ | refine blk_alloc ?_ _)); exact BK299.out) hb); have n8_ := Aside0.mk (below_step bl hb); clear HO_256000; clear BK255; clear BK272; clear BK277; clear BK283; clear BK289; clear BK294; clear BK299; clear HB; have HO_256000 := n0_; have BK255 := n1_; have BK272 := n2_; have BK277 := n3_; have BK283 := n4_; have BK289 := n5_; have BK294 := n6_; have BK299 := n7_; have HB := n8_; clear n0_ n1_ n2_ n3_ n4_ n5_ n6_ n7_ n8_; (try clear hb); (try clear hb2); (try clear hk); (try clear hi)) | ((with_reducible refine gate_dst (N := 20) rfl ?_); (try (refine gate_guard (by rfl) ?_; dsimp only)); refine box_event ?hg (N := 20) ?hd (cs := #[.string (⟨#[]⟩ : ByteArray), .string (⟨#[]⟩ : ByteArray), .string (⟨#[]⟩ : ByteArray)]) (t := 41) ?hr ?_; (case hd => rfl); (case hg => rfl); (case hr => first | (go_simp; done) | (go_simp; rfl)); intro gb304 hg w124 hbox hb; have n0_ := Aside0.mk (Kd.R_below (Kd.R_elderB (kr HO_256000.out) gb304 (Nat.le_of_eq hg.symm)) hb); have n1_ := Aside0.mk (kb BK255.out hb); have n2_ := Aside0.mk (kb BK272.out hb); have n3_ := Aside0.mk (kb BK277.out hb); have n4_ := Aside0.mk (kb BK283.out hb); have n5_ := Aside0.mk (kb BK289.out hb); have n6_ := Aside0.mk (kb BK294.out hb); have n7_ := Aside0.mk (kb BK299.out hb); have n8_ := Aside0.mk (below_step bl hb); have n9_ := Aside0.mk (hbox); have n10_ := Aside0.mk ((by rw [hg]; exact (below_size bl) : w.heap.size ≤ gb304)); have n11_ := Aside0.mk ((by rw [hg]; exact (below_size bl) : w.heap.size ≤ gb304)); have n12_ := Aside0.mk ((by rw [hg]; exact Nat.ne_of_lt (blk_lt (bk BK255.out)) : gb255 ≠ gb304)); have n13_ := Aside0.mk ((by rw [hg]; exact Nat.ne_of_gt (blk_lt (bk BK255.out)) : gb304 ≠ gb255)); have n14_ := Aside0.mk ((by rw [hg]; exact Nat.ne_of_lt (blk_lt (bk BK272.out)) : gb272 ≠ gb304)); have n15_ := Aside0.mk ((by rw [hg]; exact Nat.ne_of_gt (blk_lt (bk BK272.out)) : gb304 ≠ gb272)); have n16_ := Aside0.mk ((by rw [hg]; exact Nat.ne_of_lt (blk_lt (bk BK277.out)) : gb277 ≠ gb304)); have n17_ := Aside0.mk ((by rw [hg]; exact Nat.ne_of_gt (blk_lt (bk BK277.out)) : gb304 ≠ gb277)); have n18_ := Aside0.mk ((by rw [hg]; exact Nat.ne_of_lt (blk_lt (bk BK283.out)) : gb283 ≠ gb304)); have n19_ := Aside0.mk ((by rw [hg]; exact Nat.ne_of_gt (blk_lt (bk BK283.out)) : gb304 ≠ gb283)); have n20_ := Aside0.mk ((by rw [hg]; exact Nat.ne_of_lt (blk_lt (bk BK289.out)) : gb289 ≠ gb304)); have n21_ := Aside0.mk ((by rw [hg]; exact Nat.ne_of_gt (blk_lt (bk BK289.out)) : gb304 ≠ gb289)); have n22_ := Aside0.mk ((by rw [hg]; exact Nat.ne_of_lt (blk_lt (bk BK294.out)) : gb294 ≠ gb304)); have n23_ := Aside0.mk ((by rw [hg]; exact Nat.ne_of_gt (blk_lt (bk BK294.out)) : gb304 ≠ gb294)); have n24_ := Aside0.mk ((by rw [hg]; exact Nat.ne_of_lt (blk_lt (bk BK299.out)) : gb299 ≠ gb304)); have n25_ := Aside0.mk ((by rw [hg]; exact Nat.ne_of_gt (blk_lt (bk BK299.out)) : gb304 ≠ gb299)); clear HO_256000; clear BK255; clear BK272; clear BK277; clear BK283; clear BK289; clear BK294; clear BK299; clear HB; have HO_256000 := n0_; have BK255 := n1_; have BK272 := n2_; have BK277 := n3_; have BK283 := n4_; have BK289 := n5_; have BK294 := n6_; have BK299 := n7_; have HB := n8_; have BK304 := n9_; have GW304 := n10_; have GE304 := n11_; have NB255_304 := n12_; have NB304_255 := n13_; have NB272_304 := n14_; have NB304_272 := n15_; have NB277_304 := n16_; have NB304_277 := n17_; have NB283_304 := n18_; have NB304_283 := n19_; have NB289_304 := n20_; have NB304_289 := n21_; have NB294_304 := n22_; have NB304_294 := n23_; have NB299_304 := n24_; have NB304_299 := n25_; clear n0_ n1_ n2_ n3_ n4_ n5_ n6_ n7_ n8_ n9_ n10_ n11_ n12_ n13_ n14_ n15_ n16_ n17_ n18_ n19_ n20_ n21_ n22_ n23_ n24_ n25_; clear hb hbox hg; have hnb125 := NB304_255.out; have hnc125 := NB255_304.out; have hnb126 := NB304_272.out; have hnc126 := NB272_304.out; have hnb127 := NB304_277.out; have hnc127 := NB277_304.out; have hnb128 := NB304_283.out; have hnc128 := NB283_304.out; have hnb129 := NB304_289.out; have hnc129 := NB289_304.out; have hnb130 := NB304_294.out; have hnc130 := NB294_304.out; have hnb131 := NB304_299.out; have hnc131 := NB299_304.out; have hcz132_0 : w124.cell? ⟨gb304, 0, none⟩ = some (.string (⟨#[]⟩ : ByteArray)) := (blk_cell BK304.out 0).trans rfl; have hcz132_1 : w124.cell? ⟨gb304, 1, none⟩ = some (.string (⟨#[]⟩ : ByteArray)) := (blk_cell BK304.out 1).trans rfl; have hcz132_2 : w124.cell? ⟨gb304, 2, none⟩ = some (.string (⟨#[]⟩ : ByteArray)) := (blk_cell BK304.out 2).trans rfl; have hfz132_0 := blk_frozen BK304.out 0; have hfz132_1 := blk_frozen BK304.out 1; have hfz132_2 := blk_frozen BK304.out 2))
    have n0_ : Aside0 (Kd.R k41 41 (((w124.setCell ⟨gb304, 0, none⟩ (.string t300)).setCell ⟨gb304, 1, none⟩ (.string t301)).setCell ⟨gb304, 2, none⟩ (.string t302)) w.heap.size (fun k_ => k_ ≠ gb272 ∧ k_ ≠ gb277 ∧ k_ ≠ gb283 ∧ k_ ≠ gb289 ∧ k_ ≠ gb294 ∧ k_ ≠ gb299 ∧ k_ ≠ gb304) (.slice Ao7 t249.length co7) t249) := ⟨by (with_reducible repeat (first | apply Kd.R_alloc | apply Kd.R_drewN | apply Kd.R_drew)); exact Kd.R_mono (Kd.R_far (p := ⟨gb304, 2, none⟩) (Kd.R_far (p := ⟨gb304, 1, none⟩) (Kd.R_far (p := ⟨gb304, 0, none⟩) (Kd.R_mono HO_256000.out (fun k_ hk => (⟨hk, hk.2⟩ : _ ∧ k_ ≠ gb304))) (fun _ hk => hk.2) (.string t300)) (fun _ hk => hk.2) (.string t301)) (fun _ hk => hk.2) (.string t302)) (fun _ hk => ⟨hk.1.1.1.1.1.1.1.2, ⟨hk.1.1.1.1.1.1.2, ⟨hk.1.1.1.1.1.2, ⟨hk.1.1.1.1.2, ⟨hk.1.1.1.2, ⟨hk.1.1.2, hk.1.2⟩⟩⟩⟩⟩⟩)⟩
    have n1_ : Aside0 ((((w124.setCell ⟨gb304, 0, none⟩ (.string t300)).setCell ⟨gb304, 1, none⟩ (.string t301)).setCell ⟨gb304, 2, none⟩ (.string t302)).heap[gb255]? = some (.cells #[.slice Ao7 t249.length co7, .string t252, .bool t253] 24 (0, 0))) := ⟨by (with_reducible repeat (first | refine blk_drewN ?_ _ | refine blk_drew ?_ | refine blk_alloc ?_ _)); refine blk_far ?_ NB255_304.out _; (with_reducible repeat (first | refine blk_drewN ?_ _ | refine blk_drew ?_ | refine blk_alloc ?_ _)); refine blk_far ?_ NB255_304.out _; (with_reducible repeat (first | refine blk_drewN ?_ _ | refine blk_drew ?_ | refine blk_alloc ?_ _)); refine blk_far ?_ NB255_304.out _; (with_reducible repeat (first | refine blk_drewN ?_ _ | refine blk_drew ?_ | refine blk_alloc ?_ _)); exact BK255.out⟩
    have n2_ : Aside0 ((((w124.setCell ⟨gb304, 0, none⟩ (.string t300)).setCell ⟨gb304, 1, none⟩ (.string t301)).setCell ⟨gb304, 2, none⟩ (.string t302)).heap[gb272]? = some (.cells #[.string t268, .string t269, .string t270] 41 (0, 0))) := ⟨by (with_reducible repeat (first | refine blk_drewN ?_ _ | refine blk_drew ?_ | refine blk_alloc ?_ _)); refine blk_far ?_ NB272_304.out _; (with_reducible repeat (first | refine blk_drewN ?_ _ | refine blk_drew ?_ | refine blk_alloc ?_ _)); refine blk_far ?_ NB272_304.out _; (with_reducible repeat (first | refine blk_drewN ?_ _ | refine blk_drew ?_ | refine blk_alloc ?_ _)); refine blk_far ?_ NB272_304.out _; (with_reducible repeat (first | refine blk_drewN ?_ _ | refine blk_drew ?_ | refine blk_alloc ?_ _)); exact BK272.out⟩
    have n3_ : Aside0 ((((w124.setCell ⟨gb304, 0, none⟩ (.string t300)).setCell ⟨gb304, 1, none⟩ (.string t301)).setCell ⟨gb304, 2, none⟩ (.string t302)).heap[gb277]? = some (.cells #[.string t273, .string t274, .string t275] 41 (0, 0))) := ⟨by (with_reducible repeat (first | refine blk_drewN ?_ _ | refine blk_drew ?_ | refine blk_alloc ?_ _)); refine blk_far ?_ NB277_304.out _; (with_reducible repeat (first | refine blk_drewN ?_ _ | refine blk_drew ?_ | refine blk_alloc ?_ _)); refine blk_far ?_ NB277_304.out _; (with_reducible repeat (first | refine blk_drewN ?_ _ | refine blk_drew ?_ | refine blk_alloc ?_ _)); refine blk_far ?_ NB277_304.out _; (with_reducible repeat (first | refine blk_drewN ?_ _ | refine blk_drew ?_ | refine blk_alloc ?_ _)); exact BK277.out⟩
    have n4_ : Aside0 ((((w124.setCell ⟨gb304, 0, none⟩ (.string t300)).setCell ⟨gb304, 1, none⟩ (.string t301)).setCell ⟨gb304, 2, none⟩ (.string t302)).heap[gb283]? = some (.cells #[.string t279, .string t280, .string t281] 41 (0, 0))) := ⟨by (with_reducible repeat (first | refine blk_drewN ?_ _ | refine blk_drew ?_ | refine blk_alloc ?_ _)); refine blk_far ?_ NB283_304.out _; (with_reducible repeat (first | refine blk_drewN ?_ _ | refine blk_drew ?_ | refine blk_alloc ?_ _)); refine blk_far ?_ NB283_304.out _; (with_reducible repeat (first | refine blk_drewN ?_ _ | refine blk_drew ?_ | refine blk_alloc ?_ _)); refine blk_far ?_ NB283_304.out _; (with_reducible repeat (first | refine blk_drewN ?_ _ | refine blk_drew ?_ | refine blk_alloc ?_ _)); exact BK283.out⟩
    have n5_ : Aside0 ((((w124.setCell ⟨gb304, 0, none⟩ (.string t300)).setCell ⟨gb304, 1, none⟩ (.string t301)).setCell ⟨gb304, 2, none⟩ (.string t302)).heap[gb289]? = some (.cells #[.string t285, .string t286, .string t287] 41 (0, 0))) := ⟨by (with_reducible repeat (first | refine blk_drewN ?_ _ | refine blk_drew ?_ | refine blk_alloc ?_ _)); refine blk_far ?_ NB289_304.out _; (with_reducible repeat (first | refine blk_drewN ?_ _ | refine blk_drew ?_ | refine blk_alloc ?_ _)); refine blk_far ?_ NB289_304.out _; (with_reducible repeat (first | refine blk_drewN ?_ _ | refine blk_drew ?_ | refine blk_alloc ?_ _)); refine blk_far ?_ NB289_304.out _; (with_reducible repeat (first | refine blk_drewN ?_ _ | refine blk_drew ?_ | refine blk_alloc ?_ _)); exact BK289.out⟩
    have n6_ : Aside0 ((((w124.setCell ⟨gb304, 0, none⟩ (.string t300)).setCell ⟨gb304, 1, none⟩ (.string t301)).setCell ⟨gb304, 2, none⟩ (.string t302)).heap[gb294]? = some (.cells #[.string t290, .string t291, .string t292] 41 (0, 0))) := ⟨by (with_reducible repeat (first | refine blk_drewN ?_ _ | refine blk_drew ?_ | refine blk_alloc ?_ _)); refine blk_far ?_ NB294_304.out _; (with_reducible repeat (first | refine blk_drewN ?_ _ | refine blk_drew ?_ | refine blk_alloc ?_ _)); refine blk_far ?_ NB294_304.out _; (with_reducible repeat (first | refine blk_drewN ?_ _ | refine blk_drew ?_ | refine blk_alloc ?_ _)); refine blk_far ?_ NB294_304.out _; (with_reducible repeat (first | refine blk_drewN ?_ _ | refine blk_drew ?_ | refine blk_alloc ?_ _)); exact BK294.out⟩
    have n7_ : Aside0 ((((w124.setCell ⟨gb304, 0, none⟩ (.string t300)).setCell ⟨gb304, 1, none⟩ (.string t301)).setCell ⟨gb304, 2, none⟩ (.string t302)).heap[gb299]? = some (.cells #[.string t295, .string t296, .string t297] 41 (0, 0))) := ⟨by (with_reducible repeat (first | refine blk_drewN ?_ _ | refine blk_drew ?_ | refine blk_alloc ?_ _)); refine blk_far ?_ NB299_304.out _; (with_reducible repeat (first | refine blk_drewN ?_ _ | refine blk_drew ?_ | refine blk_alloc ?_ _)); refine blk_far ?_ NB299_304.out _; (with_reducible repeat (first | refine blk_drewN ?_ _ | refine blk_drew ?_ | refine blk_alloc ?_ _)); refine blk_far ?_ NB299_304.out _; (with_reducible repeat (first | refine blk_drewN ?_ _ | refine blk_drew ?_ | refine blk_alloc ?_ _)); exact BK299.out⟩
    have n8_ : Aside0 ((((w124.setCell ⟨gb304, 0, none⟩ (.string t300)).setCell ⟨gb304, 1, none⟩ (.string t301)).setCell ⟨gb304, 2, none⟩ (.string t302)).heap[gb304]? = some (.cells #[.string t300, .string t301, .string t302] 41 (0, 0))) := ⟨by (with_reducible repeat (first | refine blk_drewN ?_ _ | refine blk_drew ?_ | refine blk_alloc ?_ _)); refine blk_put (cs := #[.string t300, .string t301, .string (⟨#[]⟩ : ByteArray)]) ?_ 2 _ rfl; (with_reducible repeat (first | refine blk_drewN ?_ _ | refine blk_drew ?_ | refine blk_alloc ?_ _)); refine blk_put (cs := #[.string t300, .string (⟨#[]⟩ : ByteArray), .string (⟨#[]⟩ : ByteArray)]) ?_ 1 _ rfl; (with_reducible repeat (first | refine blk_drewN ?_ _ | refine blk_drew ?_ | refine blk_alloc ?_ _)); refine blk_put (cs := #[.string (⟨#[]⟩ : ByteArray), .string (⟨#[]⟩ : ByteArray), .string (⟨#[]⟩ : ByteArray)]) ?_ 0 _ rfl; (with_reducible repeat (first | refine blk_drewN ?_ _ | refine blk_drew ?_ | refine blk_alloc ?_ _)); exact BK304.out⟩
    have n9_ : Aside0 (Below w.heap.size w (((w124.setCell ⟨gb304, 0, none⟩ (.string t300)).setCell ⟨gb304, 1, none⟩ (.string t301)).setCell ⟨gb304, 2, none⟩ (.string t302))) := ⟨by repeat (first | (with_reducible first | exact HB.out | apply below_alloc | apply pw_below_drewN | apply below_drew1 | refine below_set ?_ GE255.out | refine below_set ?_ GE272.out | refine below_set ?_ GE277.out | refine below_set ?_ GE283.out | refine below_set ?_ GE289.out | refine below_set ?_ GE294.out | refine below_set ?_ GE299.out | refine below_set ?_ GE304.out) | exact HB.out)⟩
    (try clear HO_256000)
    (try clear BK255)
    (try clear BK272)
    (try clear BK277)
    (try clear BK283)
    (try clear BK289)
    (try clear BK294)
    (try clear BK299)
    (try clear BK304)
    (try clear HB)
    generalize (((w124.setCell ⟨gb304, 0, none⟩ (.string t300)).setCell ⟨gb304, 1, none⟩ (.string t301)).setCell ⟨gb304, 2, none⟩ (.string t302)) = w133 at n0_ n1_ n2_ n3_ n4_ n5_ n6_ n7_ n8_ n9_ ⊢
    have HO_256000 := n0_
    have BK255 := n1_
    have BK272 := n2_
    have BK277 := n3_
    have BK283 := n4_
    have BK289 := n5_
    have BK294 := n6_
    have BK299 := n7_
    have BK304 := n8_
    have HB := n9_
    clear n0_ n1_ n2_ n3_ n4_ n5_ n6_ n7_ n8_ n9_
    have n0_ := Aside0.mk (Kd.R_drew HO_256000.out)
    have n1_ := Aside0.mk (blk_drew BK255.out)
    have n2_ := Aside0.mk (blk_drew BK272.out)
    have n3_ := Aside0.mk (blk_drew BK277.out)
    have n4_ := Aside0.mk (blk_drew BK283.out)
    have n5_ := Aside0.mk (blk_drew BK289.out)
    have n6_ := Aside0.mk (blk_drew BK294.out)
    have n7_ := Aside0.mk (blk_drew BK299.out)
    have n8_ := Aside0.mk (blk_drew BK304.out)
    have n9_ := Aside0.mk (below_drew1 HB.out)
    clear HO_256000
    clear BK255
    clear BK272
    clear BK277
    clear BK283
    clear BK289
    clear BK294
    clear BK299
    clear BK304
    clear HB
    have HO_256000 := n0_
    have BK255 := n1_
    have BK272 := n2_
    have BK277 := n3_
    have BK283 := n4_
    have BK289 := n5_
    have BK294 := n6_
    have BK299 := n7_
    have BK304 := n8_
    have HB := n9_
    clear n0_ n1_ n2_ n3_ n4_ n5_ n6_ n7_ n8_ n9_
    refine start_ (n := 9) (S := fun w' => w'.cell? ⟨gb255, 0, none⟩ = some (.slice Ao7 t249.length co7) ∧ w'.cell? ⟨gb255, 1, none⟩ = some (.string t252) ∧ w'.cell? ⟨gb255, 2, none⟩ = some (.bool t253)) (ds := []) #[false, false, false, false, false, false, false, false, false] (by kernel_rfl) rfl rfl ⟨(blk_cell BK255.out 0).trans rfl, (blk_cell BK255.out 1).trans rfl, (blk_cell BK255.out 2).trans rfl⟩ (fun hHeld => ?_); refine with_tabW postriderlaw07_HeadKnown.tab18 postriderlaw07_HeadKnown.bits18 (fun HT_ HW_ => ?_)
    generalize w133.drew = w134 at HO_256000 BK255 BK272 BK277 BK283 BK289 BK294 BK299 BK304 HB hHeld ⊢
    refine take_ (i := 0) (N := some 143) (v := ?_) (a' := ?_) #[true, false, false, false, false, false, false, false, false] rfl rfl (take_ofW HT_.out HW_.out (by kernel_rfl)) (fun _ _ _ h => h) (Or.inl ⟨by rfl, ?_⟩) hHeld ?_ ?_
    rotate_left
    ·rintro w' ⟨s0, s1, s2⟩
     go_simp
     with_reducible rfl
    rotate_left
    ·simp only [Act.put, List.setIfInBounds_toArray, List.set_cons_zero, List.set_cons_succ, i64_w, i32_w]
     rfl
    refine join_ (σ := Value × Nat) 2 #[true, true, true, true, true, true, true, false, false] (fun s_ => [(144, .string t305), (145, .tuple #[.agg #[s_.1, .string t309, .bool t310], .int .i64 t311]), (22, .pointer (some ⟨s_.2, 0, none⟩)), (142, .tuple #[.agg #[s_.1, .string t309, .bool t310], .int .i64 t311]), (146, .agg #[s_.1, .string t309, .bool t310]), (147, .int .i64 t311)]) (fun s_ w' => (w'.cell? ⟨gb255, 0, none⟩ = some (.slice Ao7 t249.length co7) ∧ w'.cell? ⟨gb255, 1, none⟩ = some (.string t252) ∧ w'.cell? ⟨gb255, 2, none⟩ = some (.bool t253)) ∧ (Kd.R k41 41 w' w.heap.size (fun k_ => some k_ ≠ (.slice Ao7 t249.length co7 : Value).ownBlock ∧ k_ ≠ gb272 ∧ k_ ≠ gb277 ∧ k_ ≠ gb283 ∧ k_ ≠ gb289 ∧ k_ ≠ gb294 ∧ k_ ≠ gb299 ∧ k_ ≠ gb304) s_.1 t306) ∧ (Kd.R k41 41 w' w.heap.size (fun k_ => some k_ ≠ (s_.1 : Value).ownBlock ∧ k_ ≠ gb272 ∧ k_ ≠ gb277 ∧ k_ ≠ gb283 ∧ k_ ≠ gb289 ∧ k_ ≠ gb294 ∧ k_ ≠ gb299 ∧ k_ ≠ gb304) (.slice Ao7 t249.length co7) t249) ∧ (w'.heap[gb255]? = some (.cells #[.slice Ao7 t249.length co7, .string t252, .bool t253] 24 (0, 0))) ∧ (w'.heap[gb272]? = some (.cells #[.string t268, .string t269, .string t270] 41 (0, 0))) ∧ (w'.heap[gb277]? = some (.cells #[.string t273, .string t274, .string t275] 41 (0, 0))) ∧ (w'.heap[gb283]? = some (.cells #[.string t279, .string t280, .string t281] 41 (0, 0))) ∧ (w'.heap[gb289]? = some (.cells #[.string t285, .string t286, .string t287] 41 (0, 0))) ∧ (w'.heap[gb294]? = some (.cells #[.string t290, .string t291, .string t292] 41 (0, 0))) ∧ (w'.heap[gb299]? = some (.cells #[.string t295, .string t296, .string t297] 41 (0, 0))) ∧ (w'.heap[gb304]? = some (.cells #[.string t300, .string t301, .string t302] 41 (0, 0))) ∧ (w'.heap[s_.2]? = some (.cells #[.slice none 0 0, .string (⟨#[]⟩ : ByteArray), .bool false] 24 (0, 0))) ∧ (w.heap.size ≤ s_.2) ∧ (w.heap.size ≤ s_.2) ∧ (gb255 ≠ s_.2) ∧ (s_.2 ≠ gb255) ∧ (gb272 ≠ s_.2) ∧ (s_.2 ≠ gb272) ∧ (gb277 ≠ s_.2) ∧ (s_.2 ≠ gb277) ∧ (gb283 ≠ s_.2) ∧ (s_.2 ≠ gb283) ∧ (gb289 ≠ s_.2) ∧ (s_.2 ≠ gb289) ∧ (gb294 ≠ s_.2) ∧ (s_.2 ≠ gb294) ∧ (gb299 ≠ s_.2) ∧ (s_.2 ≠ gb299) ∧ (gb304 ≠ s_.2) ∧ (s_.2 ≠ gb304) ∧ (Below w.heap.size w w')) ?_ ?_
    rotate_left
    ·intro hCont
     refine two_ (i := 1) (j := 6) (Ni := some 144) (Nj := some 22) #[true, true, false, false, false, false, false, false, false] #[true, false, false, false, false, false, true, false, false] rfl rfl rfl rfl (two_of HT_.out (by kernel_rfl)) (by decide) (by decide) (fun K hK => ?_) (fun K hK => ?_)
     ·skip
      refine goes_ Tryd.func38 (by kernel_rfl) rfl #[.string (⟨#[121]⟩ : ByteArray), .int .i64 8192] (by rfl) rfl rfl ml ?_
      with_reducible refine (strings_Repeat.calls (⟨#[121]⟩ : ByteArray) 8192 t305 _ A49.out).mono ?_
      rintro e w135 ⟨rfl, hb⟩
      refine ⟨_, rfl, ?_⟩
      have n0_ := Aside0.mk (Kd.R_below (kr HO_256000.out) hb)
      have n1_ := Aside0.mk (kb BK255.out hb)
      have n2_ := Aside0.mk (kb BK272.out hb)
      have n3_ := Aside0.mk (kb BK277.out hb)
      have n4_ := Aside0.mk (kb BK283.out hb)
      have n5_ := Aside0.mk (kb BK289.out hb)
      have n6_ := Aside0.mk (kb BK294.out hb)
      have n7_ := Aside0.mk (kb BK299.out hb)
      have n8_ := Aside0.mk (kb BK304.out hb)
      have n9_ := Aside0.mk (below_step bl hb)
      clear HO_256000
      clear BK255
      clear BK272
      clear BK277
      clear BK283
      clear BK289
      clear BK294
      clear BK299
      clear BK304
      clear HB
      have HO_256000 := n0_
      have BK255 := n1_
      have BK272 := n2_
      have BK277 := n3_
      have BK283 := n4_
      have BK289 := n5_
      have BK294 := n6_
      have BK299 := n7_
      have BK304 := n8_
      have HB := n9_
      clear n0_ n1_ n2_ n3_ n4_ n5_ n6_ n7_ n8_ n9_
      (try clear hb)
      (try clear hb2)
      (try clear hk)
      (try clear hi)
      refine hK.out _ _ ⟨(blk_cell BK255.out 0).trans rfl, (blk_cell BK255.out 1).trans rfl, (blk_cell BK255.out 2).trans rfl⟩ (fun hHeld => ?_)
      clear hK K
      refine norm_ (a' := ?_) ?_ ?_
      rotate_left
      ·show Act.put _ (some 144) _ = _
       simp only [Act.put, List.setIfInBounds_toArray, List.set_cons_zero, List.set_cons_succ, i64_w, i32_w]
       rfl
      refine two_ (i := 2) (j := 6) (Ni := some 145) (Nj := some 22) #[true, true, true, false, false, false, false, false, false] #[true, true, false, false, false, false, true, false, false] rfl rfl rfl rfl (two_of HT_.out (by kernel_rfl)) (by decide) (by decide) (fun K hK => ?_) (fun K hK => ?_)
      ·skip
       refine goes_ Tryd.func31 (by kernel_rfl) rfl #[.agg #[.slice Ao7 t249.length co7, .string t252, .bool t253], .string (⟨#[120]⟩ : ByteArray), .string t305] (by rfl) rfl rfl ml ?_
       with_reducible refine (head_Message_Ahead.calls kj2 _ _ t249 t252 t253 (⟨#[120]⟩ : ByteArray) t305 t306 t309 t310 t311 _ ?side1 ?side2 ?side3 A50.out).mono ?_
       (case side1 => repeat (first | exact (Kd.R_reads' HO_256000.out).2.2 | (with_reducible refine Kd.C_alloc ?_ _) | (with_reducible refine Kd.C_drewN ?_ _) | (with_reducible refine Kd.C_drew ?_)))
       (case side2 => exact (Kd.R_reads' HO_256000.out).2.1)
       (case side3 => exact Glob.below HG.out bl)
       rintro e w136 ⟨v307, rfl, ho0, hb⟩
       refine ⟨_, rfl, ?_⟩
       have n0_ := Aside0.mk (Kd.R_elder' (kr HO_256000.out) (Kd.R_base ho0) hb)
       have n1_ := Aside0.mk (Kd.R_lower (Kd.R_newB (Kd.R_newB (Kd.R_newB (Kd.R_newB (Kd.R_newB (Kd.R_newB (Kd.R_newB (Kd.R_new' ho0 (Kd.R_lt (kr HO_256000.out))) (g := gb272) (o := .cells #[.string t268, .string t269, .string t270] 41 (0, 0)) (bk BK272.out)) (g := gb277) (o := .cells #[.string t273, .string t274, .string t275] 41 (0, 0)) (bk BK277.out)) (g := gb283) (o := .cells #[.string t279, .string t280, .string t281] 41 (0, 0)) (bk BK283.out)) (g := gb289) (o := .cells #[.string t285, .string t286, .string t287] 41 (0, 0)) (bk BK289.out)) (g := gb294) (o := .cells #[.string t290, .string t291, .string t292] 41 (0, 0)) (bk BK294.out)) (g := gb299) (o := .cells #[.string t295, .string t296, .string t297] 41 (0, 0)) (bk BK299.out)) (g := gb304) (o := .cells #[.string t300, .string t301, .string t302] 41 (0, 0)) (bk BK304.out)) (below_size bl))
       have n2_ := Aside0.mk (kb BK255.out hb)
       have n3_ := Aside0.mk (kb BK272.out hb)
       have n4_ := Aside0.mk (kb BK277.out hb)
       have n5_ := Aside0.mk (kb BK283.out hb)
       have n6_ := Aside0.mk (kb BK289.out hb)
       have n7_ := Aside0.mk (kb BK294.out hb)
       have n8_ := Aside0.mk (kb BK299.out hb)
       have n9_ := Aside0.mk (kb BK304.out hb)
       have n10_ := Aside0.mk (below_step bl hb)
       clear HO_256000
       clear BK255
       clear BK272
       clear BK277
       clear BK283
       clear BK289
       clear BK294
       clear BK299
       clear BK304
       clear HB
       have HO_256000 := n0_
       have HO308 := n1_
       have BK255 := n2_
       have BK272 := n3_
       have BK277 := n4_
       have BK283 := n5_
       have BK289 := n6_
       have BK294 := n7_
       have BK299 := n8_
       have BK304 := n9_
       have HB := n10_
       clear n0_ n1_ n2_ n3_ n4_ n5_ n6_ n7_ n8_ n9_ n10_
       (try clear hb)
       (try clear hb2)
       (try clear hk)
       (try clear hi)
       (try clear ho0)
       refine hK.out _ _ ⟨(blk_cell BK255.out 0).trans rfl, (blk_cell BK255.out 1).trans rfl, (blk_cell BK255.out 2).trans rfl⟩ (fun hHeld => ?_)
       clear hK K
       refine norm_ (a' := ?_) ?_ ?_
       rotate_left
       ·show Act.put _ (some 145) _ = _
        simp only [Act.put, List.setIfInBounds_toArray, List.set_cons_zero, List.set_cons_succ, i64_w, i32_w]
        rfl
       refine pure_ (i := 3) (N := some 142) (v := ?_) (a' := ?_) (tf 4 5) rfl rfl (any_of HT_.out (by kernel_rfl)) (fun _ _ _ h => h) (Or.inl ⟨by rfl, ?_⟩) ?_ ?_
       rotate_left
       ·intro w'
        go_simp
        with_reducible rfl
       rotate_left
       ·simp only [Act.put, List.setIfInBounds_toArray, List.set_cons_zero, List.set_cons_succ, i64_w, i32_w]
        rfl
       refine pure_ (i := 4) (N := some 146) (v := ?_) (a' := ?_) (tf 5 4) rfl rfl (any_of HT_.out (by kernel_rfl)) (fun _ _ _ h => h) (Or.inl ⟨by rfl, ?_⟩) ?_ ?_
       rotate_left
       ·intro w'
        go_simp
        with_reducible rfl
       rotate_left
       ·simp only [Act.put, List.setIfInBounds_toArray, List.set_cons_zero, List.set_cons_succ, i64_w, i32_w]
        rfl
       refine pure_ (i := 5) (N := some 147) (v := ?_) (a' := ?_) (tf 6 3) rfl rfl (any_of HT_.out (by kernel_rfl)) (fun _ _ _ h => h) (Or.inl ⟨by rfl, ?_⟩) ?_ ?_
       rotate_left
       ·intro w'
        go_simp
        with_reducible rfl
       rotate_left
       ·simp only [Act.put, List.setIfInBounds_toArray, List.set_cons_zero, List.set_cons_succ, i64_w, i32_w]
        rfl
       refine one_ (i := 6) (N := some 22) #[true, true, true, true, true, true, true, false, false] rfl rfl (one_of HT_.out (by kernel_rfl)) (by decide) (fun K hK => ?_)
       refine box_step ?hg (N := 22) ?hd (cs := #[.slice none 0 0, .string (⟨#[]⟩ : ByteArray), .bool false]) (t := 24) ?hr ?_; (case hd => rfl); (case hg => rfl); (case hr => first | (go_simp; done) | (go_simp; rfl))
       intro gb312 hg w137 hbox hb
       have n0_ := Aside0.mk (Kd.R_below (kr HO_256000.out) hb)
       have n1_ := Aside0.mk (Kd.R_below (kr HO308.out) hb)
       have n2_ := Aside0.mk (kb BK255.out hb)
       have n3_ := Aside0.mk (kb BK272.out hb)
       have n4_ := Aside0.mk (kb BK277.out hb)
       have n5_ := Aside0.mk (kb BK283.out hb)
       have n6_ := Aside0.mk (kb BK289.out hb)
       have n7_ := Aside0.mk (kb BK294.out hb)
       have n8_ := Aside0.mk (kb BK299.out hb)
       have n9_ := Aside0.mk (kb BK304.out hb)
       have n10_ := Aside0.mk (below_step bl hb)
       have n11_ := Aside0.mk (hbox)
       have n12_ := Aside0.mk ((by rw [hg]; exact (below_size bl) : w.heap.size ≤ gb312))
       have n13_ := Aside0.mk ((by rw [hg]; exact (below_size bl) : w.heap.size ≤ gb312))
       have n14_ := Aside0.mk ((by rw [hg]; exact Nat.ne_of_lt (blk_lt (bk BK255.out)) : gb255 ≠ gb312))
       have n15_ := Aside0.mk ((by rw [hg]; exact Nat.ne_of_gt (blk_lt (bk BK255.out)) : gb312 ≠ gb255))
       have n16_ := Aside0.mk ((by rw [hg]; exact Nat.ne_of_lt (blk_lt (bk BK272.out)) : gb272 ≠ gb312))
       have n17_ := Aside0.mk ((by rw [hg]; exact Nat.ne_of_gt (blk_lt (bk BK272.out)) : gb312 ≠ gb272))
       have n18_ := Aside0.mk ((by rw [hg]; exact Nat.ne_of_lt (blk_lt (bk BK277.out)) : gb277 ≠ gb312))
       have n19_ := Aside0.mk ((by rw [hg]; exact Nat.ne_of_gt (blk_lt (bk BK277.out)) : gb312 ≠ gb277))
       have n20_ := Aside0.mk ((by rw [hg]; exact Nat.ne_of_lt (blk_lt (bk BK283.out)) : gb283 ≠ gb312))
       have n21_ := Aside0.mk ((by rw [hg]; exact Nat.ne_of_gt (blk_lt (bk BK283.out)) : gb312 ≠ gb283))
       have n22_ := Aside0.mk ((by rw [hg]; exact Nat.ne_of_lt (blk_lt (bk BK289.out)) : gb289 ≠ gb312))
       have n23_ := Aside0.mk ((by rw [hg]; exact Nat.ne_of_gt (blk_lt (bk BK289.out)) : gb312 ≠ gb289))
       have n24_ := Aside0.mk ((by rw [hg]; exact Nat.ne_of_lt (blk_lt (bk BK294.out)) : gb294 ≠ gb312))
       have n25_ := Aside0.mk ((by rw [hg]; exact Nat.ne_of_gt (blk_lt (bk BK294.out)) : gb312 ≠ gb294))
       have n26_ := Aside0.mk ((by rw [hg]; exact Nat.ne_of_lt (blk_lt (bk BK299.out)) : gb299 ≠ gb312))
       have n27_ := Aside0.mk ((by rw [hg]; exact Nat.ne_of_gt (blk_lt (bk BK299.out)) : gb312 ≠ gb299))
       have n28_ := Aside0.mk ((by rw [hg]; exact Nat.ne_of_lt (blk_lt (bk BK304.out)) : gb304 ≠ gb312))
       have n29_ := Aside0.mk ((by rw [hg]; exact Nat.ne_of_gt (blk_lt (bk BK304.out)) : gb312 ≠ gb304))
       clear HO_256000
       clear HO308
       clear BK255
       clear BK272
       clear BK277
       clear BK283
       clear BK289
       clear BK294
       clear BK299
       clear BK304
       clear HB
       have HO_256000 := n0_
       have HO308 := n1_
       have BK255 := n2_
       have BK272 := n3_
       have BK277 := n4_
       have BK283 := n5_
       have BK289 := n6_
       have BK294 := n7_
       have BK299 := n8_
       have BK304 := n9_
       have HB := n10_
       have BK312 := n11_
       have GW312 := n12_
       have GE312 := n13_
       have NB255_312 := n14_
       have NB312_255 := n15_
       have NB272_312 := n16_
       have NB312_272 := n17_
       have NB277_312 := n18_
       have NB312_277 := n19_
       have NB283_312 := n20_
       have NB312_283 := n21_
       have NB289_312 := n22_
       have NB312_289 := n23_
       have NB294_312 := n24_
       have NB312_294 := n25_
       have NB299_312 := n26_
       have NB312_299 := n27_
       have NB304_312 := n28_
       have NB312_304 := n29_
       clear n0_ n1_ n2_ n3_ n4_ n5_ n6_ n7_ n8_ n9_ n10_ n11_ n12_ n13_ n14_ n15_ n16_ n17_ n18_ n19_ n20_ n21_ n22_ n23_ n24_ n25_ n26_ n27_ n28_ n29_
       clear hb hbox hg
       refine hK.out _ _ ⟨(blk_cell BK255.out 0).trans rfl, (blk_cell BK255.out 1).trans rfl, (blk_cell BK255.out 2).trans rfl⟩ (fun hHeld => ?_)
       clear hK K
       refine norm_ (a' := ?_) ?_ ?_
       rotate_left
       ·show Act.put _ (some 22) _ = _
        simp only [Act.put, List.setIfInBounds_toArray, List.set_cons_zero, List.set_cons_succ, i64_w, i32_w]
        rfl
       exact norm_ (by simp only [putAll, Act.put, List.setIfInBounds_toArray, List.set_cons_zero, List.set_cons_succ]) (hCont (v307, gb312) _ ⟨hHeld, (by (with_reducible repeat (first | apply Kd.R_alloc | apply Kd.R_drewN | apply Kd.R_drew)); exact Kd.R_mono HO308.out (fun _ hk => ⟨hk.1.1.1.1.1.1.1.2, ⟨hk.1.1.1.1.1.1.2, ⟨hk.1.1.1.1.1.2, ⟨hk.1.1.1.1.2, ⟨hk.1.1.1.2, ⟨hk.1.1.2, ⟨hk.1.2, hk.2⟩⟩⟩⟩⟩⟩⟩)), (by (with_reducible repeat (first | apply Kd.R_alloc | apply Kd.R_drewN | apply Kd.R_drew)); exact Kd.R_mono HO_256000.out (fun _ hk => ⟨hk.2, ⟨hk.1.1, ⟨hk.1.2.1, ⟨hk.1.2.2.1, ⟨hk.1.2.2.2.1, ⟨hk.1.2.2.2.2.1, ⟨hk.1.2.2.2.2.2.1, hk.1.2.2.2.2.2.2⟩⟩⟩⟩⟩⟩⟩)), (bk BK255.out), (bk BK272.out), (bk BK277.out), (bk BK283.out), (bk BK289.out), (bk BK294.out), (bk BK299.out), (bk BK304.out), (bk BK312.out), GW312.out, GE312.out, NB255_312.out, NB312_255.out, NB272_312.out, NB312_272.out, NB277_312.out, NB312_277.out, NB283_312.out, NB312_283.out, NB289_312.out, NB312_289.out, NB294_312.out, NB312_294.out, NB299_312.out, NB312_299.out, NB304_312.out, NB312_304.out, bl⟩)
      ·skip
       refine box_step ?hg (N := 22) ?hd (cs := #[.slice none 0 0, .string (⟨#[]⟩ : ByteArray), .bool false]) (t := 24) ?hr ?_; (case hd => rfl); (case hg => rfl); (case hr => first | (go_simp; done) | (go_simp; rfl))
       intro gb312 hg w136 hbox hb
       have n0_ := Aside0.mk (Kd.R_below (kr HO_256000.out) hb)
       have n1_ := Aside0.mk (kb BK255.out hb)
       have n2_ := Aside0.mk (kb BK272.out hb)
       have n3_ := Aside0.mk (kb BK277.out hb)
       have n4_ := Aside0.mk (kb BK283.out hb)
       have n5_ := Aside0.mk (kb BK289.out hb)
       have n6_ := Aside0.mk (kb BK294.out hb)
       have n7_ := Aside0.mk (kb BK299.out hb)
       have n8_ := Aside0.mk (kb BK304.out hb)
       have n9_ := Aside0.mk (below_step bl hb)
       have n10_ := Aside0.mk (hbox)
       have n11_ := Aside0.mk ((by rw [hg]; exact (below_size bl) : w.heap.size ≤ gb312))
       have n12_ := Aside0.mk ((by rw [hg]; exact (below_size bl) : w.heap.size ≤ gb312))
       have n13_ := Aside0.mk ((by rw [hg]; exact Nat.ne_of_lt (blk_lt (bk BK255.out)) : gb255 ≠ gb312))
       have n14_ := Aside0.mk ((by rw [hg]; exact Nat.ne_of_gt (blk_lt (bk BK255.out)) : gb312 ≠ gb255))
       have n15_ := Aside0.mk ((by rw [hg]; exact Nat.ne_of_lt (blk_lt (bk BK272.out)) : gb272 ≠ gb312))
       have n16_ := Aside0.mk ((by rw [hg]; exact Nat.ne_of_gt (blk_lt (bk BK272.out)) : gb312 ≠ gb272))
       have n17_ := Aside0.mk ((by rw [hg]; exact Nat.ne_of_lt (blk_lt (bk BK277.out)) : gb277 ≠ gb312))
       have n18_ := Aside0.mk ((by rw [hg]; exact Nat.ne_of_gt (blk_lt (bk BK277.out)) : gb312 ≠ gb277))
       have n19_ := Aside0.mk ((by rw [hg]; exact Nat.ne_of_lt (blk_lt (bk BK283.out)) : gb283 ≠ gb312))
       have n20_ := Aside0.mk ((by rw [hg]; exact Nat.ne_of_gt (blk_lt (bk BK283.out)) : gb312 ≠ gb283))
       have n21_ := Aside0.mk ((by rw [hg]; exact Nat.ne_of_lt (blk_lt (bk BK289.out)) : gb289 ≠ gb312))
       have n22_ := Aside0.mk ((by rw [hg]; exact Nat.ne_of_gt (blk_lt (bk BK289.out)) : gb312 ≠ gb289))
       have n23_ := Aside0.mk ((by rw [hg]; exact Nat.ne_of_lt (blk_lt (bk BK294.out)) : gb294 ≠ gb312))
       have n24_ := Aside0.mk ((by rw [hg]; exact Nat.ne_of_gt (blk_lt (bk BK294.out)) : gb312 ≠ gb294))
       have n25_ := Aside0.mk ((by rw [hg]; exact Nat.ne_of_lt (blk_lt (bk BK299.out)) : gb299 ≠ gb312))
       have n26_ := Aside0.mk ((by rw [hg]; exact Nat.ne_of_gt (blk_lt (bk BK299.out)) : gb312 ≠ gb299))
       have n27_ := Aside0.mk ((by rw [hg]; exact Nat.ne_of_lt (blk_lt (bk BK304.out)) : gb304 ≠ gb312))
       have n28_ := Aside0.mk ((by rw [hg]; exact Nat.ne_of_gt (blk_lt (bk BK304.out)) : gb312 ≠ gb304))
       clear HO_256000
       clear BK255
       clear BK272
       clear BK277
       clear BK283
       clear BK289
       clear BK294
       clear BK299
       clear BK304
       clear HB
       have HO_256000 := n0_
       have BK255 := n1_
       have BK272 := n2_
       have BK277 := n3_
       have BK283 := n4_
       have BK289 := n5_
       have BK294 := n6_
       have BK299 := n7_
       have BK304 := n8_
       have HB := n9_
       have BK312 := n10_
       have GW312 := n11_
       have GE312 := n12_
       have NB255_312 := n13_
       have NB312_255 := n14_
       have NB272_312 := n15_
       have NB312_272 := n16_
       have NB277_312 := n17_
       have NB312_277 := n18_
       have NB283_312 := n19_
       have NB312_283 := n20_
       have NB289_312 := n21_
       have NB312_289 := n22_
       have NB294_312 := n23_
       have NB312_294 := n24_
       have NB299_312 := n25_
       have NB312_299 := n26_
       have NB304_312 := n27_
       have NB312_304 := n28_
       clear n0_ n1_ n2_ n3_ n4_ n5_ n6_ n7_ n8_ n9_ n10_ n11_ n12_ n13_ n14_ n15_ n16_ n17_ n18_ n19_ n20_ n21_ n22_ n23_ n24_ n25_ n26_ n27_ n28_
       clear hb hbox hg
       refine hK.out _ _ ⟨(blk_cell BK255.out 0).trans rfl, (blk_cell BK255.out 1).trans rfl, (blk_cell BK255.out 2).trans rfl⟩ (fun hHeld => ?_)
       clear hK K
       refine norm_ (a' := ?_) ?_ ?_
       rotate_left
       ·show Act.put _ (some 22) _ = _
        simp only [Act.put, List.setIfInBounds_toArray, List.set_cons_zero, List.set_cons_succ, i64_w, i32_w]
        rfl
       refine one_ (i := 2) (N := some 145) #[true, true, true, false, false, false, true, false, false] rfl rfl (one_of HT_.out (by kernel_rfl)) (by decide) (fun K hK => ?_)
       refine goes_ Tryd.func31 (by kernel_rfl) rfl #[.agg #[.slice Ao7 t249.length co7, .string t252, .bool t253], .string (⟨#[120]⟩ : ByteArray), .string t305] (by rfl) rfl rfl ml ?_
       with_reducible refine (head_Message_Ahead.calls kj2 _ _ t249 t252 t253 (⟨#[120]⟩ : ByteArray) t305 t306 t309 t310 t311 _ ?side1 ?side2 ?side3 A50.out).mono ?_
       (case side1 => repeat (first | exact (Kd.R_reads' HO_256000.out).2.2 | (with_reducible refine Kd.C_alloc ?_ _) | (with_reducible refine Kd.C_drewN ?_ _) | (with_reducible refine Kd.C_drew ?_)))
       (case side2 => exact (Kd.R_reads' HO_256000.out).2.1)
       (case side3 => exact Glob.below HG.out bl)
       rintro e w137 ⟨v307, rfl, ho0, hb⟩
       refine ⟨_, rfl, ?_⟩
       have n0_ := Aside0.mk (Kd.R_elder' (kr HO_256000.out) (Kd.R_base ho0) hb)
       have n1_ := Aside0.mk (Kd.R_lower (Kd.R_newB (Kd.R_newB (Kd.R_newB (Kd.R_newB (Kd.R_newB (Kd.R_newB (Kd.R_newB (Kd.R_new' ho0 (Kd.R_lt (kr HO_256000.out))) (g := gb272) (o := .cells #[.string t268, .string t269, .string t270] 41 (0, 0)) (bk BK272.out)) (g := gb277) (o := .cells #[.string t273, .string t274, .string t275] 41 (0, 0)) (bk BK277.out)) (g := gb283) (o := .cells #[.string t279, .string t280, .string t281] 41 (0, 0)) (bk BK283.out)) (g := gb289) (o := .cells #[.string t285, .string t286, .string t287] 41 (0, 0)) (bk BK289.out)) (g := gb294) (o := .cells #[.string t290, .string t291, .string t292] 41 (0, 0)) (bk BK294.out)) (g := gb299) (o := .cells #[.string t295, .string t296, .string t297] 41 (0, 0)) (bk BK299.out)) (g := gb304) (o := .cells #[.string t300, .string t301, .string t302] 41 (0, 0)) (bk BK304.out)) (below_size bl))
       have n2_ := Aside0.mk (kb BK255.out hb)
       have n3_ := Aside0.mk (kb BK272.out hb)
       have n4_ := Aside0.mk (kb BK277.out hb)
       have n5_ := Aside0.mk (kb BK283.out hb)
       have n6_ := Aside0.mk (kb BK289.out hb)
       have n7_ := Aside0.mk (kb BK294.out hb)
       have n8_ := Aside0.mk (kb BK299.out hb)
       have n9_ := Aside0.mk (kb BK304.out hb)
       have n10_ := Aside0.mk (kb BK312.out hb)
       have n11_ := Aside0.mk (below_step bl hb)
       clear HO_256000
       clear BK255
       clear BK272
       clear BK277
       clear BK283
       clear BK289
       clear BK294
       clear BK299
       clear BK304
       clear BK312
       clear HB
       have HO_256000 := n0_
       have HO308 := n1_
       have BK255 := n2_
       have BK272 := n3_
       have BK277 := n4_
       have BK283 := n5_
       have BK289 := n6_
       have BK294 := n7_
       have BK299 := n8_
       have BK304 := n9_
       have BK312 := n10_
       have HB := n11_
       clear n0_ n1_ n2_ n3_ n4_ n5_ n6_ n7_ n8_ n9_ n10_ n11_
       (try clear hb)
       (try clear hb2)
       (try clear hk)
       (try clear hi)
       (try clear ho0)
       refine hK.out _ _ ⟨(blk_cell BK255.out 0).trans rfl, (blk_cell BK255.out 1).trans rfl, (blk_cell BK255.out 2).trans rfl⟩ (fun hHeld => ?_)
       clear hK K
       refine norm_ (a' := ?_) ?_ ?_
       rotate_left
       ·show Act.put _ (some 145) _ = _
        simp only [Act.put, List.setIfInBounds_toArray, List.set_cons_zero, List.set_cons_succ, i64_w, i32_w]
        rfl
       refine pure_ (i := 3) (N := some 142) (v := ?_) (a' := ?_) #[true, true, true, true, false, false, true, false, false] rfl rfl (any_of HT_.out (by kernel_rfl)) (fun _ _ _ h => h) (Or.inl ⟨by rfl, ?_⟩) ?_ ?_
       rotate_left
       ·intro w'
        go_simp
        with_reducible rfl
       rotate_left
       ·simp only [Act.put, List.setIfInBounds_toArray, List.set_cons_zero, List.set_cons_succ, i64_w, i32_w]
        rfl
       refine pure_ (i := 4) (N := some 146) (v := ?_) (a' := ?_) #[true, true, true, true, true, false, true, false, false] rfl rfl (any_of HT_.out (by kernel_rfl)) (fun _ _ _ h => h) (Or.inl ⟨by rfl, ?_⟩) ?_ ?_
       rotate_left
       ·intro w'
        go_simp
        with_reducible rfl
       rotate_left
       ·simp only [Act.put, List.setIfInBounds_toArray, List.set_cons_zero, List.set_cons_succ, i64_w, i32_w]
        rfl
       refine pure_ (i := 5) (N := some 147) (v := ?_) (a' := ?_) (tf 7 2) rfl rfl (any_of HT_.out (by kernel_rfl)) (fun _ _ _ h => h) (Or.inl ⟨by rfl, ?_⟩) ?_ ?_
       rotate_left
       ·intro w'
        go_simp
        with_reducible rfl
       rotate_left
       ·simp only [Act.put, List.setIfInBounds_toArray, List.set_cons_zero, List.set_cons_succ, i64_w, i32_w]
        rfl
       exact norm_ (by simp only [putAll, Act.put, List.setIfInBounds_toArray, List.set_cons_zero, List.set_cons_succ]) (hCont (v307, gb312) _ ⟨hHeld, (by (with_reducible repeat (first | apply Kd.R_alloc | apply Kd.R_drewN | apply Kd.R_drew)); exact Kd.R_mono HO308.out (fun _ hk => ⟨hk.1.1.1.1.1.1.1.2, ⟨hk.1.1.1.1.1.1.2, ⟨hk.1.1.1.1.1.2, ⟨hk.1.1.1.1.2, ⟨hk.1.1.1.2, ⟨hk.1.1.2, ⟨hk.1.2, hk.2⟩⟩⟩⟩⟩⟩⟩)), (by (with_reducible repeat (first | apply Kd.R_alloc | apply Kd.R_drewN | apply Kd.R_drew)); exact Kd.R_mono HO_256000.out (fun _ hk => ⟨hk.2, ⟨hk.1.1, ⟨hk.1.2.1, ⟨hk.1.2.2.1, ⟨hk.1.2.2.2.1, ⟨hk.1.2.2.2.2.1, ⟨hk.1.2.2.2.2.2.1, hk.1.2.2.2.2.2.2⟩⟩⟩⟩⟩⟩⟩)), (bk BK255.out), (bk BK272.out), (bk BK277.out), (bk BK283.out), (bk BK289.out), (bk BK294.out), (bk BK299.out), (bk BK304.out), (bk BK312.out), GW312.out, GE312.out, NB255_312.out, NB312_255.out, NB272_312.out, NB312_272.out, NB277_312.out, NB312_277.out, NB283_312.out, NB312_283.out, NB289_312.out, NB312_289.out, NB294_312.out, NB312_294.out, NB299_312.out, NB312_299.out, NB304_312.out, NB312_304.out, bl⟩)
     ·skip
      refine box_step ?hg (N := 22) ?hd (cs := #[.slice none 0 0, .string (⟨#[]⟩ : ByteArray), .bool false]) (t := 24) ?hr ?_; (case hd => rfl); (case hg => rfl); (case hr => first | (go_simp; done) | (go_simp; rfl))
      intro gb312 hg w135 hbox hb
      have n0_ := Aside0.mk (Kd.R_below (kr HO_256000.out) hb)
      have n1_ := Aside0.mk (kb BK255.out hb)
      have n2_ := Aside0.mk (kb BK272.out hb)
      have n3_ := Aside0.mk (kb BK277.out hb)
      have n4_ := Aside0.mk (kb BK283.out hb)
      have n5_ := Aside0.mk (kb BK289.out hb)
      have n6_ := Aside0.mk (kb BK294.out hb)
      have n7_ := Aside0.mk (kb BK299.out hb)
      have n8_ := Aside0.mk (kb BK304.out hb)
      have n9_ := Aside0.mk (below_step bl hb)
      have n10_ := Aside0.mk (hbox)
      have n11_ := Aside0.mk ((by rw [hg]; exact (below_size bl) : w.heap.size ≤ gb312))
      have n12_ := Aside0.mk ((by rw [hg]; exact (below_size bl) : w.heap.size ≤ gb312))
      have n13_ := Aside0.mk ((by rw [hg]; exact Nat.ne_of_lt (blk_lt (bk BK255.out)) : gb255 ≠ gb312))
      have n14_ := Aside0.mk ((by rw [hg]; exact Nat.ne_of_gt (blk_lt (bk BK255.out)) : gb312 ≠ gb255))
      have n15_ := Aside0.mk ((by rw [hg]; exact Nat.ne_of_lt (blk_lt (bk BK272.out)) : gb272 ≠ gb312))
      have n16_ := Aside0.mk ((by rw [hg]; exact Nat.ne_of_gt (blk_lt (bk BK272.out)) : gb312 ≠ gb272))
      have n17_ := Aside0.mk ((by rw [hg]; exact Nat.ne_of_lt (blk_lt (bk BK277.out)) : gb277 ≠ gb312))
      have n18_ := Aside0.mk ((by rw [hg]; exact Nat.ne_of_gt (blk_lt (bk BK277.out)) : gb312 ≠ gb277))
      have n19_ := Aside0.mk ((by rw [hg]; exact Nat.ne_of_lt (blk_lt (bk BK283.out)) : gb283 ≠ gb312))
      have n20_ := Aside0.mk ((by rw [hg]; exact Nat.ne_of_gt (blk_lt (bk BK283.out)) : gb312 ≠ gb283))
      have n21_ := Aside0.mk ((by rw [hg]; exact Nat.ne_of_lt (blk_lt (bk BK289.out)) : gb289 ≠ gb312))
      have n22_ := Aside0.mk ((by rw [hg]; exact Nat.ne_of_gt (blk_lt (bk BK289.out)) : gb312 ≠ gb289))
      have n23_ := Aside0.mk ((by rw [hg]; exact Nat.ne_of_lt (blk_lt (bk BK294.out)) : gb294 ≠ gb312))
      have n24_ := Aside0.mk ((by rw [hg]; exact Nat.ne_of_gt (blk_lt (bk BK294.out)) : gb312 ≠ gb294))
      have n25_ := Aside0.mk ((by rw [hg]; exact Nat.ne_of_lt (blk_lt (bk BK299.out)) : gb299 ≠ gb312))
      have n26_ := Aside0.mk ((by rw [hg]; exact Nat.ne_of_gt (blk_lt (bk BK299.out)) : gb312 ≠ gb299))
      have n27_ := Aside0.mk ((by rw [hg]; exact Nat.ne_of_lt (blk_lt (bk BK304.out)) : gb304 ≠ gb312))
      have n28_ := Aside0.mk ((by rw [hg]; exact Nat.ne_of_gt (blk_lt (bk BK304.out)) : gb312 ≠ gb304))
      clear HO_256000
      clear BK255
      clear BK272
      clear BK277
      clear BK283
      clear BK289
      clear BK294
      clear BK299
      clear BK304
      clear HB
      have HO_256000 := n0_
      have BK255 := n1_
      have BK272 := n2_
      have BK277 := n3_
      have BK283 := n4_
      have BK289 := n5_
      have BK294 := n6_
      have BK299 := n7_
      have BK304 := n8_
      have HB := n9_
      have BK312 := n10_
      have GW312 := n11_
      have GE312 := n12_
      have NB255_312 := n13_
      have NB312_255 := n14_
      have NB272_312 := n15_
      have NB312_272 := n16_
      have NB277_312 := n17_
      have NB312_277 := n18_
      have NB283_312 := n19_
      have NB312_283 := n20_
      have NB289_312 := n21_
      have NB312_289 := n22_
      have NB294_312 := n23_
      have NB312_294 := n24_
      have NB299_312 := n25_
      have NB312_299 := n26_
      have NB304_312 := n27_
      have NB312_304 := n28_
      clear n0_ n1_ n2_ n3_ n4_ n5_ n6_ n7_ n8_ n9_ n10_ n11_ n12_ n13_ n14_ n15_ n16_ n17_ n18_ n19_ n20_ n21_ n22_ n23_ n24_ n25_ n26_ n27_ n28_
      clear hb hbox hg
      refine hK.out _ _ ⟨(blk_cell BK255.out 0).trans rfl, (blk_cell BK255.out 1).trans rfl, (blk_cell BK255.out 2).trans rfl⟩ (fun hHeld => ?_)
      clear hK K
      refine norm_ (a' := ?_) ?_ ?_
      rotate_left
      ·show Act.put _ (some 22) _ = _
       simp only [Act.put, List.setIfInBounds_toArray, List.set_cons_zero, List.set_cons_succ, i64_w, i32_w]
       rfl
      refine one_ (i := 1) (N := some 144) #[true, true, false, false, false, false, true, false, false] rfl rfl (one_of HT_.out (by kernel_rfl)) (by decide) (fun K hK => ?_)
      refine goes_ Tryd.func38 (by kernel_rfl) rfl #[.string (⟨#[121]⟩ : ByteArray), .int .i64 8192] (by rfl) rfl rfl ml ?_
      with_reducible refine (strings_Repeat.calls (⟨#[121]⟩ : ByteArray) 8192 t305 _ A49.out).mono ?_
      rintro e w136 ⟨rfl, hb⟩
      refine ⟨_, rfl, ?_⟩
      have n0_ := Aside0.mk (Kd.R_below (kr HO_256000.out) hb)
      have n1_ := Aside0.mk (kb BK255.out hb)
      have n2_ := Aside0.mk (kb BK272.out hb)
      have n3_ := Aside0.mk (kb BK277.out hb)
      have n4_ := Aside0.mk (kb BK283.out hb)
      have n5_ := Aside0.mk (kb BK289.out hb)
      have n6_ := Aside0.mk (kb BK294.out hb)
      have n7_ := Aside0.mk (kb BK299.out hb)
      have n8_ := Aside0.mk (kb BK304.out hb)
      have n9_ := Aside0.mk (kb BK312.out hb)
      have n10_ := Aside0.mk (below_step bl hb)
      clear HO_256000
      clear BK255
      clear BK272
      clear BK277
      clear BK283
      clear BK289
      clear BK294
      clear BK299
      clear BK304
      clear BK312
      clear HB
      have HO_256000 := n0_
      have BK255 := n1_
      have BK272 := n2_
      have BK277 := n3_
      have BK283 := n4_
      have BK289 := n5_
      have BK294 := n6_
      have BK299 := n7_
      have BK304 := n8_
      have BK312 := n9_
      have HB := n10_
      clear n0_ n1_ n2_ n3_ n4_ n5_ n6_ n7_ n8_ n9_ n10_
      (try clear hb)
      (try clear hb2)
      (try clear hk)
      (try clear hi)
      refine hK.out _ _ ⟨(blk_cell BK255.out 0).trans rfl, (blk_cell BK255.out 1).trans rfl, (blk_cell BK255.out 2).trans rfl⟩ (fun hHeld => ?_)
      clear hK K
      refine norm_ (a' := ?_) ?_ ?_
      rotate_left
      ·show Act.put _ (some 144) _ = _
       simp only [Act.put, List.setIfInBounds_toArray, List.set_cons_zero, List.set_cons_succ, i64_w, i32_w]
       rfl
      refine one_ (i := 2) (N := some 145) #[true, true, true, false, false, false, true, false, false] rfl rfl (one_of HT_.out (by kernel_rfl)) (by decide) (fun K hK => ?_)
      refine goes_ Tryd.func31 (by kernel_rfl) rfl #[.agg #[.slice Ao7 t249.length co7, .string t252, .bool t253], .string (⟨#[120]⟩ : ByteArray), .string t305] (by rfl) rfl rfl ml ?_
      with_reducible refine (head_Message_Ahead.calls kj2 _ _ t249 t252 t253 (⟨#[120]⟩ : ByteArray) t305 t306 t309 t310 t311 _ ?side1 ?side2 ?side3 A50.out).mono ?_
      (case side1 => repeat (first | exact (Kd.R_reads' HO_256000.out).2.2 | (with_reducible refine Kd.C_alloc ?_ _) | (with_reducible refine Kd.C_drewN ?_ _) | (with_reducible refine Kd.C_drew ?_)))
      (case side2 => exact (Kd.R_reads' HO_256000.out).2.1)
      (case side3 => exact Glob.below HG.out bl)
      rintro e w137 ⟨v307, rfl, ho0, hb⟩
      refine ⟨_, rfl, ?_⟩
      have n0_ := Aside0.mk (Kd.R_elder' (kr HO_256000.out) (Kd.R_base ho0) hb)
      have n1_ := Aside0.mk (Kd.R_lower (Kd.R_newB (Kd.R_newB (Kd.R_newB (Kd.R_newB (Kd.R_newB (Kd.R_newB (Kd.R_newB (Kd.R_new' ho0 (Kd.R_lt (kr HO_256000.out))) (g := gb272) (o := .cells #[.string t268, .string t269, .string t270] 41 (0, 0)) (bk BK272.out)) (g := gb277) (o := .cells #[.string t273, .string t274, .string t275] 41 (0, 0)) (bk BK277.out)) (g := gb283) (o := .cells #[.string t279, .string t280, .string t281] 41 (0, 0)) (bk BK283.out)) (g := gb289) (o := .cells #[.string t285, .string t286, .string t287] 41 (0, 0)) (bk BK289.out)) (g := gb294) (o := .cells #[.string t290, .string t291, .string t292] 41 (0, 0)) (bk BK294.out)) (g := gb299) (o := .cells #[.string t295, .string t296, .string t297] 41 (0, 0)) (bk BK299.out)) (g := gb304) (o := .cells #[.string t300, .string t301, .string t302] 41 (0, 0)) (bk BK304.out)) (below_size bl))
      have n2_ := Aside0.mk (kb BK255.out hb)
      have n3_ := Aside0.mk (kb BK272.out hb)
      have n4_ := Aside0.mk (kb BK277.out hb)
      have n5_ := Aside0.mk (kb BK283.out hb)
      have n6_ := Aside0.mk (kb BK289.out hb)
      have n7_ := Aside0.mk (kb BK294.out hb)
      have n8_ := Aside0.mk (kb BK299.out hb)
      have n9_ := Aside0.mk (kb BK304.out hb)
      have n10_ := Aside0.mk (kb BK312.out hb)
      have n11_ := Aside0.mk (below_step bl hb)
      clear HO_256000
      clear BK255
      clear BK272
      clear BK277
      clear BK283
      clear BK289
      clear BK294
      clear BK299
      clear BK304
      clear BK312
      clear HB
      have HO_256000 := n0_
      have HO308 := n1_
      have BK255 := n2_
      have BK272 := n3_
      have BK277 := n4_
      have BK283 := n5_
      have BK289 := n6_
      have BK294 := n7_
      have BK299 := n8_
      have BK304 := n9_
      have BK312 := n10_
      have HB := n11_
      clear n0_ n1_ n2_ n3_ n4_ n5_ n6_ n7_ n8_ n9_ n10_ n11_
      (try clear hb)
      (try clear hb2)
      (try clear hk)
      (try clear hi)
      (try clear ho0)
      refine hK.out _ _ ⟨(blk_cell BK255.out 0).trans rfl, (blk_cell BK255.out 1).trans rfl, (blk_cell BK255.out 2).trans rfl⟩ (fun hHeld => ?_)
      clear hK K
      refine norm_ (a' := ?_) ?_ ?_
      rotate_left
      ·show Act.put _ (some 145) _ = _
       simp only [Act.put, List.setIfInBounds_toArray, List.set_cons_zero, List.set_cons_succ, i64_w, i32_w]
       rfl
      refine pure_ (i := 3) (N := some 142) (v := ?_) (a' := ?_) #[true, true, true, true, false, false, true, false, false] rfl rfl (any_of HT_.out (by kernel_rfl)) (fun _ _ _ h => h) (Or.inl ⟨by rfl, ?_⟩) ?_ ?_
      rotate_left
      ·intro w'
       go_simp
       with_reducible rfl
      rotate_left
      ·simp only [Act.put, List.setIfInBounds_toArray, List.set_cons_zero, List.set_cons_succ, i64_w, i32_w]
       rfl
      refine pure_ (i := 4) (N := some 146) (v := ?_) (a' := ?_) #[true, true, true, true, true, false, true, false, false] rfl rfl (any_of HT_.out (by kernel_rfl)) (fun _ _ _ h => h) (Or.inl ⟨by rfl, ?_⟩) ?_ ?_
      rotate_left
      ·intro w'
       go_simp
       with_reducible rfl
      rotate_left
      ·simp only [Act.put, List.setIfInBounds_toArray, List.set_cons_zero, List.set_cons_succ, i64_w, i32_w]
       rfl
      refine pure_ (i := 5) (N := some 147) (v := ?_) (a' := ?_) (tf 7 2) rfl rfl (any_of HT_.out (by kernel_rfl)) (fun _ _ _ h => h) (Or.inl ⟨by rfl, ?_⟩) ?_ ?_
      rotate_left
      ·intro w'
       go_simp
       with_reducible rfl
      rotate_left
      ·simp only [Act.put, List.setIfInBounds_toArray, List.set_cons_zero, List.set_cons_succ, i64_w, i32_w]
       rfl
      exact norm_ (by simp only [putAll, Act.put, List.setIfInBounds_toArray, List.set_cons_zero, List.set_cons_succ]) (hCont (v307, gb312) _ ⟨hHeld, (by (with_reducible repeat (first | apply Kd.R_alloc | apply Kd.R_drewN | apply Kd.R_drew)); exact Kd.R_mono HO308.out (fun _ hk => ⟨hk.1.1.1.1.1.1.1.2, ⟨hk.1.1.1.1.1.1.2, ⟨hk.1.1.1.1.1.2, ⟨hk.1.1.1.1.2, ⟨hk.1.1.1.2, ⟨hk.1.1.2, ⟨hk.1.2, hk.2⟩⟩⟩⟩⟩⟩⟩)), (by (with_reducible repeat (first | apply Kd.R_alloc | apply Kd.R_drewN | apply Kd.R_drew)); exact Kd.R_mono HO_256000.out (fun _ hk => ⟨hk.2, ⟨hk.1.1, ⟨hk.1.2.1, ⟨hk.1.2.2.1, ⟨hk.1.2.2.2.1, ⟨hk.1.2.2.2.2.1, ⟨hk.1.2.2.2.2.2.1, hk.1.2.2.2.2.2.2⟩⟩⟩⟩⟩⟩⟩)), (bk BK255.out), (bk BK272.out), (bk BK277.out), (bk BK283.out), (bk BK289.out), (bk BK294.out), (bk BK299.out), (bk BK304.out), (bk BK312.out), GW312.out, GE312.out, NB255_312.out, NB312_255.out, NB272_312.out, NB312_272.out, NB277_312.out, NB312_277.out, NB283_312.out, NB312_283.out, NB289_312.out, NB312_289.out, NB294_312.out, NB312_294.out, NB299_312.out, NB312_299.out, NB304_312.out, NB312_304.out, bl⟩)
    rintro ⟨v307, gb312⟩ w138 ⟨hS_, h0_, h1_, h2_, h3_, h4_, h5_, h6_, h7_, h8_, h9_, h10_, h11_, h12_, h13_, h14_, h15_, h16_, h17_, h18_, h19_, h20_, h21_, h22_, h23_, h24_, h25_, h26_, h27_, h28_, h29_⟩
    have n0_ : Aside0 (Kd.R k41 41 w138 w.heap.size (fun k_ => some k_ ≠ (.slice Ao7 t249.length co7 : Value).ownBlock ∧ k_ ≠ gb272 ∧ k_ ≠ gb277 ∧ k_ ≠ gb283 ∧ k_ ≠ gb289 ∧ k_ ≠ gb294 ∧ k_ ≠ gb299 ∧ k_ ≠ gb304) v307 t306) := ⟨h0_⟩
    have n1_ : Aside0 (Kd.R k41 41 w138 w.heap.size (fun k_ => some k_ ≠ (v307 : Value).ownBlock ∧ k_ ≠ gb272 ∧ k_ ≠ gb277 ∧ k_ ≠ gb283 ∧ k_ ≠ gb289 ∧ k_ ≠ gb294 ∧ k_ ≠ gb299 ∧ k_ ≠ gb304) (.slice Ao7 t249.length co7) t249) := ⟨h1_⟩
    have n2_ : Aside0 (w138.heap[gb255]? = some (.cells #[.slice Ao7 t249.length co7, .string t252, .bool t253] 24 (0, 0))) := ⟨h2_⟩
    have n3_ : Aside0 (w138.heap[gb272]? = some (.cells #[.string t268, .string t269, .string t270] 41 (0, 0))) := ⟨h3_⟩
    have n4_ : Aside0 (w138.heap[gb277]? = some (.cells #[.string t273, .string t274, .string t275] 41 (0, 0))) := ⟨h4_⟩
    have n5_ : Aside0 (w138.heap[gb283]? = some (.cells #[.string t279, .string t280, .string t281] 41 (0, 0))) := ⟨h5_⟩
    have n6_ : Aside0 (w138.heap[gb289]? = some (.cells #[.string t285, .string t286, .string t287] 41 (0, 0))) := ⟨h6_⟩
    have n7_ : Aside0 (w138.heap[gb294]? = some (.cells #[.string t290, .string t291, .string t292] 41 (0, 0))) := ⟨h7_⟩
    have n8_ : Aside0 (w138.heap[gb299]? = some (.cells #[.string t295, .string t296, .string t297] 41 (0, 0))) := ⟨h8_⟩
    have n9_ : Aside0 (w138.heap[gb304]? = some (.cells #[.string t300, .string t301, .string t302] 41 (0, 0))) := ⟨h9_⟩
    have n10_ : Aside0 (w138.heap[gb312]? = some (.cells #[.slice none 0 0, .string (⟨#[]⟩ : ByteArray), .bool false] 24 (0, 0))) := ⟨h10_⟩
    have n11_ : Aside0 (w.heap.size ≤ gb312) := ⟨h11_⟩
    have n12_ : Aside0 (w.heap.size ≤ gb312) := ⟨h12_⟩
    have n13_ : Aside0 (gb255 ≠ gb312) := ⟨h13_⟩
    have n14_ : Aside0 (gb312 ≠ gb255) := ⟨h14_⟩
    have n15_ : Aside0 (gb272 ≠ gb312) := ⟨h15_⟩
    have n16_ : Aside0 (gb312 ≠ gb272) := ⟨h16_⟩
    have n17_ : Aside0 (gb277 ≠ gb312) := ⟨h17_⟩
    have n18_ : Aside0 (gb312 ≠ gb277) := ⟨h18_⟩
    have n19_ : Aside0 (gb283 ≠ gb312) := ⟨h19_⟩
    have n20_ : Aside0 (gb312 ≠ gb283) := ⟨h20_⟩
    have n21_ : Aside0 (gb289 ≠ gb312) := ⟨h21_⟩
    have n22_ : Aside0 (gb312 ≠ gb289) := ⟨h22_⟩
    have n23_ : Aside0 (gb294 ≠ gb312) := ⟨h23_⟩
    have n24_ : Aside0 (gb312 ≠ gb294) := ⟨h24_⟩
    have n25_ : Aside0 (gb299 ≠ gb312) := ⟨h25_⟩
    have n26_ : Aside0 (gb312 ≠ gb299) := ⟨h26_⟩
    have n27_ : Aside0 (gb304 ≠ gb312) := ⟨h27_⟩
    have n28_ : Aside0 (gb312 ≠ gb304) := ⟨h28_⟩
    have n29_ : Aside0 (Below w.heap.size w w138) := ⟨h29_⟩
    clear HO_256000
    clear BK255
    clear BK272
    clear BK277
    clear BK283
    clear BK289
    clear BK294
    clear BK299
    clear BK304
    clear HB
    clear h0_ h1_ h2_ h3_ h4_ h5_ h6_ h7_ h8_ h9_ h10_ h11_ h12_ h13_ h14_ h15_ h16_ h17_ h18_ h19_ h20_ h21_ h22_ h23_ h24_ h25_ h26_ h27_ h28_ h29_
    have HO308 := n0_
    have HO_256000 := n1_
    have BK255 := n2_
    have BK272 := n3_
    have BK277 := n4_
    have BK283 := n5_
    have BK289 := n6_
    have BK294 := n7_
    have BK299 := n8_
    have BK304 := n9_
    have BK312 := n10_
    have GW312 := n11_
    have GE312 := n12_
    have NB255_312 := n13_
    have NB312_255 := n14_
    have NB272_312 := n15_
    have NB312_272 := n16_
    have NB277_312 := n17_
    have NB312_277 := n18_
    have NB283_312 := n19_
    have NB312_283 := n20_
    have NB289_312 := n21_
    have NB312_289 := n22_
    have NB294_312 := n23_
    have NB312_294 := n24_
    have NB299_312 := n25_
    have NB312_299 := n26_
    have NB304_312 := n27_
    have NB312_304 := n28_
    have HB := n29_
    clear n0_ n1_ n2_ n3_ n4_ n5_ n6_ n7_ n8_ n9_ n10_ n11_ n12_ n13_ n14_ n15_ n16_ n17_ n18_ n19_ n20_ n21_ n22_ n23_ n24_ n25_ n26_ n27_ n28_ n29_
    have hHeld : w138.cell? ⟨gb255, 0, none⟩ = some (.slice Ao7 t249.length co7) ∧ w138.cell? ⟨gb255, 1, none⟩ = some (.string t252) ∧ w138.cell? ⟨gb255, 2, none⟩ = some (.bool t253) := hS_
    obtain ⟨Ao139, co139, eo139⟩ := Kd.R_slice HO308.out
    (first | subst eo139 | (injection eo139 with f1_ f2_ f3_; have f4_ := f1_.symm; have f5_ := f3_.symm; clear f1_ f2_ f3_; subst f4_; subst f5_))
    refine norm_ (a' := ?_) ?_ ?_
    rotate_left
    ·simp only [putAll, Act.put, List.setIfInBounds_toArray, List.set_cons_zero, List.set_cons_succ]
     rfl
    refine one_ (i := 7) (N := none) #[true, true, true, true, true, true, true, true, false] rfl rfl (one_of HT_.out (by kernel_rfl)) (by decide) (fun K hK => ?_)
    have hs140 : w138.cell? ⟨gb312, 0, none⟩ = some (.slice none 0 0) := (blk_cell BK312.out 0).trans rfl
    have hfs140 := blk_frozen BK312.out 0
    have hns140_0 := NB255_312.out
    have hns140_1 := NB272_312.out
    have hns140_2 := NB277_312.out
    have hns140_3 := NB283_312.out
    have hns140_4 := NB289_312.out
    have hns140_5 := NB294_312.out
    have hns140_6 := NB299_312.out
    have hns140_7 := NB304_312.out
    have hms140_0 := NB312_255.out
    have hms140_1 := NB312_272.out
    have hms140_2 := NB312_277.out
    have hms140_3 := NB312_283.out
    have hms140_4 := NB312_289.out
    have hms140_5 := NB312_294.out
    have hms140_6 := NB312_299.out
    have hms140_7 := NB312_304.out
    have hs141 : w138.cell? ⟨gb312, 1, none⟩ = some (.string (⟨#[]⟩ : ByteArray)) := (blk_cell BK312.out 1).trans rfl
    have hfs141 := blk_frozen BK312.out 1
    have hns141_0 := NB255_312.out
    have hns141_1 := NB272_312.out
    have hns141_2 := NB277_312.out
    have hns141_3 := NB283_312.out
    have hns141_4 := NB289_312.out
    have hns141_5 := NB294_312.out
    have hns141_6 := NB299_312.out
    have hns141_7 := NB304_312.out
    have hms141_0 := NB312_255.out
    have hms141_1 := NB312_272.out
    have hms141_2 := NB312_277.out
    have hms141_3 := NB312_283.out
    have hms141_4 := NB312_289.out
    have hms141_5 := NB312_294.out
    have hms141_6 := NB312_299.out
    have hms141_7 := NB312_304.out
    have hs142 : w138.cell? ⟨gb312, 2, none⟩ = some (.bool false) := (blk_cell BK312.out 2).trans rfl
    have hfs142 := blk_frozen BK312.out 2
    have hns142_0 := NB255_312.out
    have hns142_1 := NB272_312.out
    have hns142_2 := NB277_312.out
    have hns142_3 := NB283_312.out
    have hns142_4 := NB289_312.out
    have hns142_5 := NB294_312.out
    have hns142_6 := NB299_312.out
    have hns142_7 := NB304_312.out
    have hms142_0 := NB312_255.out
    have hms142_1 := NB312_272.out
    have hms142_2 := NB312_277.out
    have hms142_3 := NB312_283.out
    have hms142_4 := NB312_289.out
    have hms142_5 := NB312_294.out
    have hms142_6 := NB312_299.out
    have hms142_7 := NB312_304.out
    refine skip_ (w1 := ?_) (by rfl) rfl ?_ ?_
    rotate_left
    ·go_simp
     rfl
    refine hK.out _ _ ⟨((cell_far (p := ⟨gb312, _, none⟩) NB255_312.out _).trans (((cell_far (p := ⟨gb312, _, none⟩) NB255_312.out _).trans (((cell_far (p := ⟨gb312, _, none⟩) NB255_312.out _).trans (hHeld.1)))))), ((cell_far (p := ⟨gb312, _, none⟩) NB255_312.out _).trans (((cell_far (p := ⟨gb312, _, none⟩) NB255_312.out _).trans (((cell_far (p := ⟨gb312, _, none⟩) NB255_312.out _).trans (hHeld.2.1)))))), ((cell_far (p := ⟨gb312, _, none⟩) NB255_312.out _).trans (((cell_far (p := ⟨gb312, _, none⟩) NB255_312.out _).trans (((cell_far (p := ⟨gb312, _, none⟩) NB255_312.out _).trans (hHeld.2.2))))))⟩ (fun hHeld => ?_)
    clear hK K
    refine pure_ (i := 8) (N := some 23) (v := ?_) (a' := ?_) (tf 9 0) rfl rfl (any_of HT_.out (by kernel_rfl)) (fun _ _ _ h => h) (Or.inl ⟨by rfl, ?_⟩) ?_ ?_
    rotate_left
    ·intro w'
     go_simp
     with_reducible rfl
    rotate_left
    ·simp only [Act.put, List.setIfInBounds_toArray, List.set_cons_zero, List.set_cons_succ, i64_w, i32_w]
     rfl
    refine done_ (done_of HT_.out (by kernel_rfl)) ?_
    have hnb143 := NB255_312.out
    have hnc143 := NB312_255.out
    have hcz144_0 : w138.cell? ⟨gb255, 0, none⟩ = some (.slice Ao7 t249.length co7) := (blk_cell BK255.out 0).trans rfl
    have hcz144_1 : w138.cell? ⟨gb255, 1, none⟩ = some (.string t252) := (blk_cell BK255.out 1).trans rfl
    have hcz144_2 : w138.cell? ⟨gb255, 2, none⟩ = some (.bool t253) := (blk_cell BK255.out 2).trans rfl
    have hfz144_0 := blk_frozen BK255.out 0
    have hfz144_1 := blk_frozen BK255.out 1
    have hfz144_2 := blk_frozen BK255.out 2
    try go_wp2_with (first | ((with_reducible refine gate_callee (f := 33) rfl ?_); refine goesL_ (some 150) rfl rfl Tryd.func33 (by kernel_rfl) rfl #[.agg #[.slice Ao7 t249.length co7, .string t252, .bool t253], .int .i64 3, .string (⟨#[]⟩ : ByteArray)] rfl ml ?_; (with_reducible refine (head_Message_Put.calls kj2 _ _ t249 t252 t253 3 (⟨#[]⟩ : ByteArray) t313 t316 t317 t318 _ ?side1 ?side2 ?side3 A51.out).mono ?_); (case side1 => refine (Kd.R_reads' (e := 41) (base := w.heap.size) (ok := fun k_ => (some k_ ≠ (.slice Ao139 t306.length co139 : Value).ownBlock ∧ (k_ ≠ gb272 ∧ (k_ ≠ gb277 ∧ (k_ ≠ gb283 ∧ (k_ ≠ gb289 ∧ (k_ ≠ gb294 ∧ (k_ ≠ gb299 ∧ k_ ≠ gb304)))))))) (n := t249.length) (c := co7) ?_).2.2; exact (by (with_reducible repeat (first | apply Kd.R_alloc | apply Kd.R_drewN | apply Kd.R_drew)); exact (Kd.R_mono (Kd.R_far (p := ⟨gb312, 2, none⟩) (Kd.R_far (p := ⟨gb312, 1, none⟩) (Kd.R_far (p := ⟨gb312, 0, none⟩) (Kd.R_types HO_256000.out BK312.out (by decide)) (fun _ hk => hk.2) (.slice Ao139 t306.length co139)) (fun _ hk => hk.2) (.string t309)) (fun _ hk => hk.2) (.bool t310)) (fun _ h_ => h_.1)))); (case side2 => exact (Kd.R_reads' HO_256000.out).2.1); (case side3 => exact Glob.below HG.out bl); rintro e w145 ⟨v314, rfl, ho0, hb⟩; refine ⟨_, rfl, ?_⟩; have n0_ := Aside0.mk (Kd.R_elder' (by (with_reducible repeat (first | apply Kd.R_alloc | apply Kd.R_drewN | apply Kd.R_drew)); exact (Kd.R_mono (Kd.R_far (p := ⟨gb312, 2, none⟩) (Kd.R_far (p := ⟨gb312, 1, none⟩) (Kd.R_far (p := ⟨gb312, 0, none⟩) (Kd.R_types HO_256000.out BK312.out (by decide)) (fun _ hk => hk.2) (.slice Ao139 t306.length co139)) (fun _ hk => hk.2) (.string t309)) (fun _ hk => hk.2) (.bool t310)) (fun _ h_ => h_.1))) (Kd.R_base ho0) hb); have n1_ := Aside0.mk (Kd.R_elder' (by (with_reducible repeat (first | apply Kd.R_alloc | apply Kd.R_drewN | apply Kd.R_drew)); exact (Kd.R_mono (Kd.R_far (p := ⟨gb312, 2, none⟩) (Kd.R_far (p := ⟨gb312, 1, none⟩) (Kd.R_far (p := ⟨gb312, 0, none⟩) (Kd.R_types HO308.out BK312.out (by decide)) (fun _ hk => hk.2) (.slice Ao139 t306.length co139)) (fun _ hk => hk.2) (.string t309)) (fun _ hk => hk.2) (.bool t310)) (fun _ h_ => h_.1))) (Kd.R_base ho0) hb); have n2_ := Aside0.mk (Kd.R_lower (Kd.R_newB (Kd.R_newB (Kd.R_newB (Kd.R_newB (Kd.R_newB (Kd.R_newB (Kd.R_newB (Kd.R_new' (Kd.R_new' ho0 (Kd.R_lt (by (with_reducible repeat (first | apply Kd.R_alloc | apply Kd.R_drewN | apply Kd.R_drew)); exact (Kd.R_mono (Kd.R_far (p := ⟨gb312, 2, none⟩) (Kd.R_far (p := ⟨gb312, 1, none⟩) (Kd.R_far (p := ⟨gb312, 0, none⟩) (Kd.R_types HO_256000.out BK312.out (by decide)) (fun _ hk => hk.2) (.slice Ao139 t306.length co139)) (fun _ hk => hk.2) (.string t309)) (fun _ hk => hk.2) (.bool t310)) (fun _ h_ => h_.1))))) (Kd.R_lt (by (with_reducible repeat (first | apply Kd.R_alloc | apply Kd.R_drewN | apply Kd.R_drew)); exact (Kd.R_mono (Kd.R_far (p := ⟨gb312, 2, none⟩) (Kd.R_far (p := ⟨gb312, 1, none⟩) (Kd.R_far (p := ⟨gb312, 0, none⟩) (Kd.R_types HO308.out BK312.out (by decide)) (fun _ hk => hk.2) (.slice Ao139 t306.length co139)) (fun _ hk => hk.2) (.string t309)) (fun _ hk => hk.2) (.bool t310)) (fun _ h_ => h_.1))))) (g := gb272) (o := .cells #[.string t268, .string t269, .string t270] 41 (0, 0)) (bk BK272.out)) (g := gb277) (o := .cells #[.string t273, .string t274, .string t275] 41 (0, 0)) (bk BK277.out)) (g := gb283) (o := .cells #[.string t279, .string t280, .string t281] 41 (0, 0)) (bk BK283.out)) (g := gb289) (o := .cells #[.string t285, .string t286, .string t287] 41 (0, 0)) (bk BK289.out)) (g := gb294) (o := .cells #[.string t290, .string t291, .string t292] 41 (0, 0)) (bk BK294.out)) (g := gb299) (o := .cells #[.string t295, .string t296, .string t297] 41 (0, 0)) (bk BK299.out)) (g := gb304) (o := .cells #[.string t300, .string t301, .string t302] 41 (0, 0)) (bk BK304.out)) (below_size bl)); have n3_ := Aside0.mk (kb BK255.out hb); have n4_ := Aside0.mk (kb BK272.out hb); have n5_ := Aside0.mk (kb BK277.out hb); have n6_ := Aside0.mk (kb BK283.out hb); have n7_ := Aside0.mk (kb BK289.out hb); have n8_ := Aside0.mk (kb BK294.out hb); have n9_ := Aside0.mk (kb BK299.out hb); have n10_ := Aside0.mk (kb BK304.out hb); have n11_ := Aside0.mk (blk_below (g := gb312) (o := .cells #[.slice Ao139 t306.length co139, .string t309, .bool t310] 24 (0, 0)) (by (with_reducible repeat (first | refine blk_drewN ?_ _ | refine blk_drew ?_ | refine blk_alloc ?_ _)); refine blk_put (cs := #[.slice Ao139 t306.length co139, .string t309, .bool false]) ?_ 2 _ rfl; (with_reducible repeat (first | refine blk_drewN ?_ _ | refine blk_drew ?_ | refine blk_alloc ?_ _)); refine blk_put (cs := #[.slice Ao139 t306.length co139, .string (⟨#[]⟩ : ByteArray), .bool false]) ?_ 1 _ rfl; (with_reducible repeat (first | refine blk_drewN ?_ _ | refine blk_drew ?_ | refine blk_alloc ?_ _)); refine blk_put (cs := #[.slice none 0 0, .string (⟨#[]⟩ : ByteArray), .bool false]) ?_ 0 _ rfl; (with_reducible repeat (first | refine blk_drewN ?_ _ | refine blk_drew ?_ | refine blk_alloc ?_ _)); exact BK312.out) hb); have n12_ := Aside0.mk (below_step bl hb); clear HO_256000; clear HO308; clear BK255; clear BK272; clear BK277; clear BK283; clear BK289; clear BK294; clear BK299; clear BK304; clear BK312; clear HB; have HO_256000 := n0_; have HO308 := n1_; have HO315 := n2_; have BK255 := n3_; have BK272 := n4_; have BK277 := n5_; have BK283 := n6_; have BK289 := n7_; have BK294 := n8_; have BK299 := n9_; have BK304 := n10_; have BK312 := n11_; have HB := n12_; clear n0_ n1_ n2_ n3_ n4_ n5_ n6_ n7_ n8_ n9_ n10_ n11_ n12_; (try clear hb); (try clear hb2); (try clear hk); (try clear hi); (try clear ho0)) | ((with_reducible refine gate_dst (N := 24) rfl ?_); (try (refine gate_guard (by rfl) ?_; dsimp only)); refine box_event ?hg (N := 24) ?hd (cs := #[.slice none 0 0, .string (⟨#[]⟩ : ByteArray), .bool false]) (t := 24) ?hr ?_; (case hd => rfl); (case hg => rfl); (case hr => first | (go_simp; done) | (go_simp; rfl)); intro gb319 hg w146 hbox hb; have n0_ := Aside0.mk (Kd.R_below (kr HO_256000.out) hb); have n1_ := Aside0.mk (Kd.R_below (kr HO308.out) hb); have n2_ := Aside0.mk (Kd.R_below (kr HO315.out) hb); have n3_ := Aside0.mk (kb BK255.out hb); have n4_ := Aside0.mk (kb BK272.out hb); have n5_ := Aside0.mk (kb BK277.out hb); have n6_ := Aside0.mk (kb BK283.out hb); have n7_ := Aside0.mk (kb BK289.out hb); have n8_ := Aside0.mk (kb BK294.out hb); have n9_ := Aside0.mk (kb BK299.out hb); have n10_ := Aside0.mk (kb BK304.out hb); have n11_ := Aside0.mk (kb BK312.out hb); have n12_ := Aside0.mk (below_step bl hb); have n13_ := Aside0.mk (hbox); have n14_ := Aside0.mk ((by rw [hg]; exact (below_size bl) : w.heap.size ≤ gb319)); have n15_ := Aside0.mk ((by rw [hg]; exact (below_size bl) : w.heap.size ≤ gb319)); have n16_ := Aside0.mk ((by rw [hg]; exact Nat.ne_of_lt (blk_lt (bk BK255.out)) : gb255 ≠ gb319)); have n17_ := Aside0.mk ((by rw [hg]; exact Nat.ne_of_gt (blk_lt (bk BK255.out)) : gb319 ≠ gb255)); have n18_ := Aside0.mk ((by rw [hg]; exact Nat.ne_of_lt (blk_lt (bk BK272.out)) : gb272 ≠ gb319)); have n19_ := Aside0.mk ((by rw [hg]; exact Nat.ne_of_gt (blk_lt (bk BK272.out)) : gb319 ≠ gb272)); have n20_ := Aside0.mk ((by rw [hg]; exact Nat.ne_of_lt (blk_lt (bk BK277.out)) : gb277 ≠ gb319)); have n21_ := Aside0.mk ((by rw [hg]; exact Nat.ne_of_gt (blk_lt (bk BK277.out)) : gb319 ≠ gb277)); have n22_ := Aside0.mk ((by rw [hg]; exact Nat.ne_of_lt (blk_lt (bk BK283.out)) : gb283 ≠ gb319)); have n23_ := Aside0.mk ((by rw [hg]; exact Nat.ne_of_gt (blk_lt (bk BK283.out)) : gb319 ≠ gb283)); have n24_ := Aside0.mk ((by rw [hg]; exact Nat.ne_of_lt (blk_lt (bk BK289.out)) : gb289 ≠ gb319)); have n25_ := Aside0.mk ((by rw [hg]; exact Nat.ne_of_gt (blk_lt (bk BK289.out)) : gb319 ≠ gb289)); have n26_ := Aside0.mk ((by rw [hg]; exact Nat.ne_of_lt (blk_lt (bk BK294.out)) : gb294 ≠ gb319)); have n27_ := Aside0.mk ((by rw [hg]; exact Nat.ne_of_gt (blk_lt (bk BK294.out)) : gb319 ≠ gb294)); have n28_ := Aside0.mk ((by rw [hg]; exact Nat.ne_of_lt (blk_lt (bk BK299.out)) : gb299 ≠ gb319)); have n29_ := Aside0.mk ((by rw [hg]; exact Nat.ne_of_gt (blk_lt (bk BK299.out)) : gb319 ≠ gb299)); have n30_ := Aside0.mk ((by rw [hg]; exact Nat.ne_of_lt (blk_lt (bk BK304.out)) : gb304 ≠ gb319)); have n31_ := Aside0.mk ((by rw [hg]; exact Nat.ne_of_gt (blk_lt (bk BK304.out)) : gb319 ≠ gb304)); have n32_ := Aside0.mk ((by rw [hg]; exact Nat.ne_of_lt (blk_lt (bk BK312.out)) : gb312 ≠ gb319)); have n33_ := Aside0.mk ((by rw [hg]; exact Nat.ne_of_gt (blk_lt (bk BK312.out)) : gb319 ≠ gb312)); clear HO_256000; clear HO308; clear HO315; clear BK255; clear BK272; clear BK277; clear BK283; clear BK289; clear BK294; clear BK299; clear BK304; clear BK312; clear HB; have HO_256000 := n0_; have HO308 := n1_; have HO315 := n2_; have BK255 := n3_; have BK272 := n4_; have BK277 := n5_; have BK283 := n6_; have BK289 := n7_; have BK294 := n8_; have BK299 := n9_; have BK304 := n10_; have BK312 := n11_; have HB := n12_; have BK319 := n13_; have GW319 := n14_; have GE319 := n15_; have NB255_319 := n16_; have NB319_255 := n17_; have NB272_319 := n18_; have NB319_272 := n19_; have NB277_319 := n20_; have NB319_277 := n21_; have NB283_319 := n22_; have NB319_283 := n23_; have NB289_319 := n24_; have NB319_289 := n25_; have NB294_319 := n26_; have NB319_294 := n27_; have NB299_319 := n28_; have NB319_299 := n29_; have NB304_319 := n30_; have NB319_304 := n31_; have NB312_319 := n32_; have NB319_312 := n33_; clear n0_ n1_ n2_ n3_ n4_ n5_ n6_ n7_ n8_ n9_ n10_ n11_ n12_ n13_ n14_ n15_ n16_ n17_ n18_ n19_ n20_ n21_ n22_ n23_ n24_ n25_ n26_ n27_ n28_ n29_ n30_ n31_ n32_ n33_; clear hb hbox hg; obtain ⟨Ao147, co147, eo147⟩ := Kd.R_slice HO315.out; subst eo147; have hnb148 := NB319_255.out; have hnc148 := NB255_319.out; have hnb149 := NB319_272.out; have hnc149 := NB272_319.out; have hnb150 := NB319_277.out; have hnc150 := NB277_319.out; have hnb151 := NB319_283.out; have hnc151 := NB283_319.out; have hnb152 := NB319_289.out; have hnc152 := NB289_319.out; have hnb153 := NB319_294.out; have hnc153 := NB294_319.out; have hnb154 := NB319_299.out; have hnc154 := NB299_319.out; have hnb155 := NB319_304.out; have hnc155 := NB304_319.out; have hnb156 := NB319_312.out; have hnc156 := NB312_319.out; have hcz157_0 : w146.cell? ⟨gb319, 0, none⟩ = some (.slice none 0 0) := (blk_cell BK319.out 0).trans rfl; have hcz157_1 : w146.cell? ⟨gb319, 1, none⟩ = some (.string (⟨#[]⟩ : ByteArray)) := (blk_cell BK319.out 1).trans rfl; have hcz157_2 : w146.cell? ⟨gb319, 2, none⟩ = some (.bool false) := (blk_cell BK319.out 2).trans rfl; have hfz157_0 := blk_frozen BK319.out 0; have hfz157_1 := blk_frozen BK319.out 1; have hfz157_2 := blk_frozen BK319.out 2; have hcz158_0 : w146.cell? ⟨gb255, 0, none⟩ = some (.slice Ao7 t249.length co7) := (blk_cell BK255.out 0).trans rfl; have hcz158_1 : w146.cell? ⟨gb255, 1, none⟩ = some (.string t252) := (blk_cell BK255.out 1).trans rfl; have hcz158_2 : w146.cell? ⟨gb255, 2, none⟩ = some (.bool t253) := (blk_cell BK255.out 2).trans rfl; have hfz158_0 := blk_frozen BK255.out 0; have hfz158_1 := blk_frozen BK255.out 1; have hfz158_2 := blk_frozen BK255.out 2) | ((with_reducible refine gate_callee (f := 33) rfl ?_); refine goesL_ (some 155) rfl rfl Tryd.func33 (by kernel_rfl) rfl #[.agg #[.slice Ao7 t249.length co7, .string t252, .bool t253], .int .i64 (-1), .string (⟨#[]⟩ : ByteArray)] rfl ml ?_; (with_reducible refine (head_Message_Put.calls kj2 _ _ t249 t252 t253 (-1) (⟨#[]⟩ : ByteArray) t320 t323 t324 t325 _ ?side1 ?side2 ?side3 A52.out).mono ?_); (case side1 => refine (Kd.R_reads' (e := 41) (base := w.heap.size) (ok := fun k_ => ((some k_ ≠ (.slice Ao139 t306.length co139 : Value).ownBlock ∧ (k_ ≠ gb272 ∧ (k_ ≠ gb277 ∧ (k_ ≠ gb283 ∧ (k_ ≠ gb289 ∧ (k_ ≠ gb294 ∧ (k_ ≠ gb299 ∧ k_ ≠ gb304))))))) ∧ some k_ ≠ (.slice Ao147 t313.length co147 : Value).ownBlock)) (n := t249.length) (c := co7) ?_).2.2; exact (by (with_reducible repeat (first | apply Kd.R_alloc | apply Kd.R_drewN | apply Kd.R_drew)); exact (Kd.R_mono (Kd.R_far (p := ⟨gb319, 2, none⟩) (Kd.R_far (p := ⟨gb319, 1, none⟩) (Kd.R_far (p := ⟨gb319, 0, none⟩) (Kd.R_types HO_256000.out BK319.out (by decide)) (fun _ hk => hk.2) (.slice Ao147 t313.length co147)) (fun _ hk => hk.2) (.string t316)) (fun _ hk => hk.2) (.bool t317)) (fun _ h_ => h_.1)))); (case side2 => exact (Kd.R_reads' HO_256000.out).2.1); (case side3 => exact Glob.below HG.out bl); rintro e w159 ⟨v321, rfl, ho0, hb⟩; refine ⟨_, rfl, ?_⟩; have n0_ := Aside0.mk (Kd.R_elder' (by (with_reducible repeat (first | apply Kd.R_alloc | apply Kd.R_drewN | apply Kd.R_drew)); exact (Kd.R_mono (Kd.R_far (p := ⟨gb319, 2, none⟩) (Kd.R_far (p := ⟨gb319, 1, none⟩) (Kd.R_far (p := ⟨gb319, 0, none⟩) (Kd.R_types HO_256000.out BK319.out (by decide)) (fun _ hk => hk.2) (.slice Ao147 t313.length co147)) (fun _ hk => hk.2) (.string t316)) (fun _ hk => hk.2) (.bool t317)) (fun _ h_ => h_.1))) (Kd.R_base ho0) hb); have n1_ := Aside0.mk (Kd.R_elder' (by (with_reducible repeat (first | apply Kd.R_alloc | apply Kd.R_drewN | apply Kd.R_drew)); exact (Kd.R_mono (Kd.R_far (p := ⟨gb319, 2, none⟩) (Kd.R_far (p := ⟨gb319, 1, none⟩) (Kd.R_far (p := ⟨gb319, 0, none⟩) (Kd.R_types HO308.out BK319.out (by decide)) (fun _ hk => hk.2) (.slice Ao147 t313.length co147)) (fun _ hk => hk.2) (.string t316)) (fun _ hk => hk.2) (.bool t317)) (fun _ h_ => h_.1))) (Kd.R_base ho0) hb); have n2_ := Aside0.mk (Kd.R_elder' (by (with_reducible repeat (first | apply Kd.R_alloc | apply Kd.R_drewN | apply Kd.R_drew)); exact (Kd.R_mono (Kd.R_far (p := ⟨gb319, 2, none⟩) (Kd.R_far (p := ⟨gb319, 1, none⟩) (Kd.R_far (p := ⟨gb319, 0, none⟩) (Kd.R_types HO315.out BK319.out (by decide)) (fun _ hk => hk.2) (.slice Ao147 t313.length co147)) (fun _ hk => hk.2) (.string t316)) (fun _ hk => hk.2) (.bool t317)) (fun _ h_ => h_.1))) (Kd.R_base ho0) hb); have n3_ := Aside0.mk (Kd.R_lower (Kd.R_newB (Kd.R_newB (Kd.R_newB (Kd.R_newB (Kd.R_newB (Kd.R_newB (Kd.R_newB (Kd.R_new' (Kd.R_new' (Kd.R_new' ho0 (Kd.R_lt (by (with_reducible repeat (first | apply Kd.R_alloc | apply Kd.R_drewN | apply Kd.R_drew)); exact (Kd.R_mono (Kd.R_far (p := ⟨gb319, 2, none⟩) (Kd.R_far (p := ⟨gb319, 1, none⟩) (Kd.R_far (p := ⟨gb319, 0, none⟩) (Kd.R_types HO_256000.out BK319.out (by decide)) (fun _ hk => hk.2) (.slice Ao147 t313.length co147)) (fun _ hk => hk.2) (.string t316)) (fun _ hk => hk.2) (.bool t317)) (fun _ h_ => h_.1))))) (Kd.R_lt (by (with_reducible repeat (first | apply Kd.R_alloc | apply Kd.R_drewN | apply Kd.R_drew)); exact (Kd.R_mono (Kd.R_far (p := ⟨gb319, 2, none⟩) (Kd.R_far (p := ⟨gb319, 1, none⟩) (Kd.R_far (p := ⟨gb319, 0, none⟩) (Kd.R_types HO308.out BK319.out (by decide)) (fun _ hk => hk.2) (.slice Ao147 t313.length co147)) (fun _ hk => hk.2) (.string t316)) (fun _ hk => hk.2) (.bool t317)) (fun _ h_ => h_.1))))) (Kd.R_lt (by (with_reducible repeat (first | apply Kd.R_alloc | apply Kd.R_drewN | apply Kd.R_drew)); exact (Kd.R_mono (Kd.R_far (p := ⟨gb319, 2, none⟩) (Kd.R_far (p := ⟨gb319, 1, none⟩) (Kd.R_far (p := ⟨gb319, 0, none⟩) (Kd.R_types HO315.out BK319.out (by decide)) (fun _ hk => hk.2) (.slice Ao147 t313.length co147)) (fun _ hk => hk.2) (.string t316)) (fun _ hk => hk.2) (.bool t317)) (fun _ h_ => h_.1))))) (g := gb272) (o := .cells #[.string t268, .string t269, .string t270] 41 (0, 0)) (bk BK272.out)) (g := gb277) (o := .cells #[.string t273, .string t274, .string t275] 41 (0, 0)) (bk BK277.out)) (g := gb283) (o := .cells #[.string t279, .string t280, .string t281] 41 (0, 0)) (bk BK283.out)) (g := gb289) (o := .cells #[.string t285, .string t286, .string t287] 41 (0, 0)) (bk BK289.out)) (g := gb294) (o := .cells #[.string t290, .string t291, .string t292] 41 (0, 0)) (bk BK294.out)) (g := gb299) (o := .cells #[.string t295, .string t296, .string t297] 41 (0, 0)) (bk BK299.out)) (g := gb304) (o := .cells #[.string t300, .string t301, .string t302] 41 (0, 0)) (bk BK304.out)) (below_size bl)); have n4_ := Aside0.mk (kb BK255.out hb); have n5_ := Aside0.mk (kb BK272.out hb); have n6_ := Aside0.mk (kb BK277.out hb); have n7_ := Aside0.mk (kb BK283.out hb); have n8_ := Aside0.mk (kb BK289.out hb); have n9_ := Aside0.mk (kb BK294.out hb); have n10_ := Aside0.mk (kb BK299.out hb); have n11_ := Aside0.mk (kb BK304.out hb); have n12_ := Aside0.mk (kb BK312.out hb); have n13_ := Aside0.mk (blk_below (g := gb319) (o := .cells #[.slice Ao147 t313.length co147, .string t316, .bool t317] 24 (0, 0)) (by (with_reducible repeat (first | refine blk_drewN ?_ _ | refine blk_drew ?_ | refine blk_alloc ?_ _)); refine blk_put (cs := #[.slice Ao147 t313.length co147, .string t316, .bool false]) ?_ 2 _ rfl; (with_reducible repeat (first | refine blk_drewN ?_ _ | refine blk_drew ?_ | refine blk_alloc ?_ _)); refine blk_put (cs := #[.slice Ao147 t313.length co147, .string (⟨#[]⟩ : ByteArray), .bool false]) ?_ 1 _ rfl; (with_reducible repeat (first | refine blk_drewN ?_ _ | refine blk_drew ?_ | refine blk_alloc ?_ _)); refine blk_put (cs := #[.slice none 0 0, .string (⟨#[]⟩ : ByteArray), .bool false]) ?_ 0 _ rfl; (with_reducible repeat (first | refine blk_drewN ?_ _ | refine blk_drew ?_ | refine blk_alloc ?_ _)); exact BK319.out) hb); have n14_ := Aside0.mk (below_step bl hb); clear HO_256000; clear HO308; clear HO315; clear BK255; clear BK272; clear BK277; clear BK283; clear BK289; clear BK294; clear BK299; clear BK304; clear BK312; clear BK319; clear HB; have HO_256000 := n0_; have HO308 := n1_; have HO315 := n2_; have HO322 := n3_; have BK255 := n4_; have BK272 := n5_; have BK277 := n6_; have BK283 := n7_; have BK289 := n8_; have BK294 := n9_; have BK299 := n10_; have BK304 := n11_; have BK312 := n12_; have BK319 := n13_; have HB := n14_; clear n0_ n1_ n2_ n3_ n4_ n5_ n6_ n7_ n8_ n9_ n10_ n11_ n12_ n13_ n14_; (try clear hb); (try clear hb2); (try clear hk); (try clear hi); (try clear ho0)) | ((with_reducible refine gate_dst (N := 26) rfl ?_); (try (refine gate_guard (by rfl) ?_; dsimp only)); refine box_event ?hg (N := 26) ?hd (cs := #[.slice none 0 0, .string (⟨#[]⟩ : ByteArray), .bool false]) (t := 24) ?hr ?_; (case hd => rfl); (case hg => rfl); (case hr => first | (go_simp; done) | (go_simp; rfl)); intro gb326 hg w160 hbox hb; have n0_ := Aside0.mk (Kd.R_below (kr HO_256000.out) hb); have n1_ := Aside0.mk (Kd.R_below (kr HO308.out) hb); have n2_ := Aside0.mk (Kd.R_below (kr HO315.out) hb); have n3_ := Aside0.mk (Kd.R_below (kr HO322.out) hb); have n4_ := Aside0.mk (kb BK255.out hb); have n5_ := Aside0.mk (kb BK272.out hb); have n6_ := Aside0.mk (kb BK277.out hb); have n7_ := Aside0.mk (kb BK283.out hb); have n8_ := Aside0.mk (kb BK289.out hb); have n9_ := Aside0.mk (kb BK294.out hb); have n10_ := Aside0.mk (kb BK299.out hb); have n11_ := Aside0.mk (kb BK304.out hb); have n12_ := Aside0.mk (kb BK312.out hb); have n13_ := Aside0.mk (kb BK319.out hb); have n14_ := Aside0.mk (below_step bl hb); have n15_ := Aside0.mk (hbox); have n16_ := Aside0.mk ((by rw [hg]; exact (below_size bl) : w.heap.size ≤ gb326)); have n17_ := Aside0.mk ((by rw [hg]; exact (below_size bl) : w.heap.size ≤ gb326)); have n18_ := Aside0.mk ((by rw [hg]; exact Nat.ne_of_lt (blk_lt (bk BK255.out)) : gb255 ≠ gb326)); have n19_ := Aside0.mk ((by rw [hg]; exact Nat.ne_of_gt (blk_lt (bk BK255.out)) : gb326 ≠ gb255)); have n20_ := Aside0.mk ((by rw [hg]; exact Nat.ne_of_lt (blk_lt (bk BK272.out)) : gb272 ≠ gb326)); have n21_ := Aside0.mk ((by rw [hg]; exact Nat.ne_of_gt (blk_lt (bk BK272.out)) : gb326 ≠ gb272)); have n22_ := Aside0.mk ((by rw [hg]; exact Nat.ne_of_lt (blk_lt (bk BK277.out)) : gb277 ≠ gb326)); have n23_ := Aside0.mk ((by rw [hg]; exact Nat.ne_of_gt (blk_lt (bk BK277.out)) : gb326 ≠ gb277)); have n24_ := Aside0.mk ((by rw [hg]; exact Nat.ne_of_lt (blk_lt (bk BK283.out)) : gb283 ≠ gb326)); have n25_ := Aside0.mk ((by rw [hg]; exact Nat.ne_of_gt (blk_lt (bk BK283.out)) : gb326 ≠ gb283)); have n26_ := Aside0.mk ((by rw [hg]; exact Nat.ne_of_lt (blk_lt (bk BK289.out)) : gb289 ≠ gb326)); have n27_ := Aside0.mk ((by rw [hg]; exact Nat.ne_of_gt (blk_lt (bk BK289.out)) : gb326 ≠ gb289)); have n28_ := Aside0.mk ((by rw [hg]; exact Nat.ne_of_lt (blk_lt (bk BK294.out)) : gb294 ≠ gb326)); have n29_ := Aside0.mk ((by rw [hg]; exact Nat.ne_of_gt (blk_lt (bk BK294.out)) : gb326 ≠ gb294)); have n30_ := Aside0.mk ((by rw [hg]; exact Nat.ne_of_lt (blk_lt (bk BK299.out)) : gb299 ≠ gb326)); have n31_ := Aside0.mk ((by rw [hg]; exact Nat.ne_of_gt (blk_lt (bk BK299.out)) : gb326 ≠ gb299)); have n32_ := Aside0.mk ((by rw [hg]; exact Nat.ne_of_lt (blk_lt (bk BK304.out)) : gb304 ≠ gb326)); have n33_ := Aside0.mk ((by rw [hg]; exact Nat.ne_of_gt (blk_lt (bk BK304.out)) : gb326 ≠ gb304)); have n34_ := Aside0.mk ((by rw [hg]; exact Nat.ne_of_lt (blk_lt (bk BK312.out)) : gb312 ≠ gb326)); have n35_ := Aside0.mk ((by rw [hg]; exact Nat.ne_of_gt (blk_lt (bk BK312.out)) : gb326 ≠ gb312)); have n36_ := Aside0.mk ((by rw [hg]; exact Nat.ne_of_lt (blk_lt (bk BK319.out)) : gb319 ≠ gb326)); have n37_ := Aside0.mk ((by rw [hg]; exact Nat.ne_of_gt (blk_lt (bk BK319.out)) : gb326 ≠ gb319)); clear HO_256000; clear HO308; clear HO315; clear HO322; clear BK255; clear BK272; clear BK277; clear BK283; clear BK289; clear BK294; clear BK299; clear BK304; clear BK312; clear BK319; clear HB; have HO_256000 := n0_; have HO308 := n1_; have HO315 := n2_; have HO322 := n3_; have BK255 := n4_; have BK272 := n5_; have BK277 := n6_; have BK283 := n7_; have BK289 := n8_; have BK294 := n9_; have BK299 := n10_; have BK304 := n11_; have BK312 := n12_; have BK319 := n13_; have HB := n14_; have BK326 := n15_; have GW326 := n16_; have GE326 := n17_; have NB255_326 := n18_; have NB326_255 := n19_; have NB272_326 := n20_; have NB326_272 := n21_; have NB277_326 := n22_; have NB326_277 := n23_; have NB283_326 := n24_; have NB326_283 := n25_; have NB289_326 := n26_; have NB326_289 := n27_; have NB294_326 := n28_; have NB326_294 := n29_; have NB299_326 := n30_; have NB326_299 := n31_; have NB304_326 := n32_; have NB326_304 := n33_; have NB312_326 := n34_; have NB326_312 := n35_; have NB319_326 := n36_; have NB326_319 := n37_; clear n0_ n1_ n2_ n3_ n4_ n5_ n6_ n7_ n8_ n9_ n10_ n11_ n12_ n13_ n14_ n15_ n16_ n17_ n18_ n19_ n20_ n21_ n22_ n23_ n24_ n25_ n26_ n27_ n28_ n29_ n30_ n31_ n32_ n33_ n34_ n35_ n36_ n37_; clear hb hbox hg; obtain ⟨Ao161, co161, eo161⟩ := Kd.R_slice HO322.out; subst eo161; have hnb162 := NB326_255.out; have hnc162 := NB255_326.out; have hnb163 := NB326_272.out; have hnc163 := NB272_326.out; have hnb164 := NB326_277.out; have hnc164 := NB277_326.out; have hnb165 := NB326_283.out; have hnc165 := NB283_326.out; have hnb166 := NB326_289.out; have hnc166 := NB289_326.out; have hnb167 := NB326_294.out; have hnc167 := NB294_326.out; have hnb168 := NB326_299.out; have hnc168 := NB299_326.out; have hnb169 := NB326_304.out; have hnc169 := NB304_326.out; have hnb170 := NB326_312.out; have hnc170 := NB312_326.out; have hnb171 := NB326_319.out; have hnc171 := NB319_326.out; have hcz172_0 : w160.cell? ⟨gb326, 0, none⟩ = some (.slice none 0 0) := (blk_cell BK326.out 0).trans rfl; have hcz172_1 : w160.cell? ⟨gb326, 1, none⟩ = some (.string (⟨#[]⟩ : ByteArray)) := (blk_cell BK326.out 1).trans rfl; have hcz172_2 : w160.cell? ⟨gb326, 2, none⟩ = some (.bool false) := (blk_cell BK326.out 2).trans rfl; have hfz172_0 := blk_frozen BK326.out 0; have hfz172_1 := blk_frozen BK326.out 1; have hfz172_2 := blk_frozen BK326.out 2))
    have n0_ : Aside0 (Kd.R k41 41 (((w160.setCell ⟨gb326, 0, none⟩ (.slice Ao161 t320.length co161)).setCell ⟨gb326, 1, none⟩ (.string t323)).setCell ⟨gb326, 2, none⟩ (.bool t324)) w.heap.size (fun k_ => some k_ ≠ (.slice Ao139 t306.length co139 : Value).ownBlock ∧ some k_ ≠ (.slice Ao147 t313.length co147 : Value).ownBlock ∧ some k_ ≠ (.slice Ao161 t320.length co161 : Value).ownBlock ∧ k_ ≠ gb272 ∧ k_ ≠ gb277 ∧ k_ ≠ gb283 ∧ k_ ≠ gb289 ∧ k_ ≠ gb294 ∧ k_ ≠ gb299 ∧ k_ ≠ gb304) (.slice Ao7 t249.length co7) t249) := ⟨by (with_reducible repeat (first | apply Kd.R_alloc | apply Kd.R_drewN | apply Kd.R_drew)); exact Kd.R_mono (Kd.R_far (p := ⟨gb326, 2, none⟩) (Kd.R_far (p := ⟨gb326, 1, none⟩) (Kd.R_far (p := ⟨gb326, 0, none⟩) (Kd.R_types HO_256000.out BK326.out (by decide)) (fun _ hk => hk.2) (.slice Ao161 t320.length co161)) (fun _ hk => hk.2) (.string t323)) (fun _ hk => hk.2) (.bool t324)) (fun _ hk => ⟨hk.1.1.1.1, ⟨hk.1.1.2, ⟨hk.1.2, ⟨hk.1.1.1.2.1, ⟨hk.1.1.1.2.2.1, ⟨hk.1.1.1.2.2.2.1, ⟨hk.1.1.1.2.2.2.2.1, ⟨hk.1.1.1.2.2.2.2.2.1, ⟨hk.1.1.1.2.2.2.2.2.2.1, hk.1.1.1.2.2.2.2.2.2.2⟩⟩⟩⟩⟩⟩⟩⟩⟩)⟩
    have n1_ : Aside0 (Kd.R k41 41 (((w160.setCell ⟨gb326, 0, none⟩ (.slice Ao161 t320.length co161)).setCell ⟨gb326, 1, none⟩ (.string t323)).setCell ⟨gb326, 2, none⟩ (.bool t324)) w.heap.size (fun k_ => some k_ ≠ (.slice Ao7 t249.length co7 : Value).ownBlock ∧ some k_ ≠ (.slice Ao147 t313.length co147 : Value).ownBlock ∧ some k_ ≠ (.slice Ao161 t320.length co161 : Value).ownBlock ∧ k_ ≠ gb272 ∧ k_ ≠ gb277 ∧ k_ ≠ gb283 ∧ k_ ≠ gb289 ∧ k_ ≠ gb294 ∧ k_ ≠ gb299 ∧ k_ ≠ gb304) (.slice Ao139 t306.length co139) t306) := ⟨by (with_reducible repeat (first | apply Kd.R_alloc | apply Kd.R_drewN | apply Kd.R_drew)); exact Kd.R_mono (Kd.R_far (p := ⟨gb326, 2, none⟩) (Kd.R_far (p := ⟨gb326, 1, none⟩) (Kd.R_far (p := ⟨gb326, 0, none⟩) (Kd.R_types HO308.out BK326.out (by decide)) (fun _ hk => hk.2) (.slice Ao161 t320.length co161)) (fun _ hk => hk.2) (.string t323)) (fun _ hk => hk.2) (.bool t324)) (fun _ hk => ⟨hk.1.1.1.1, ⟨hk.1.1.2, ⟨hk.1.2, ⟨hk.1.1.1.2.1, ⟨hk.1.1.1.2.2.1, ⟨hk.1.1.1.2.2.2.1, ⟨hk.1.1.1.2.2.2.2.1, ⟨hk.1.1.1.2.2.2.2.2.1, ⟨hk.1.1.1.2.2.2.2.2.2.1, hk.1.1.1.2.2.2.2.2.2.2⟩⟩⟩⟩⟩⟩⟩⟩⟩)⟩
    have n2_ : Aside0 (Kd.R k41 41 (((w160.setCell ⟨gb326, 0, none⟩ (.slice Ao161 t320.length co161)).setCell ⟨gb326, 1, none⟩ (.string t323)).setCell ⟨gb326, 2, none⟩ (.bool t324)) w.heap.size (fun k_ => some k_ ≠ (.slice Ao7 t249.length co7 : Value).ownBlock ∧ some k_ ≠ (.slice Ao139 t306.length co139 : Value).ownBlock ∧ some k_ ≠ (.slice Ao161 t320.length co161 : Value).ownBlock ∧ k_ ≠ gb272 ∧ k_ ≠ gb277 ∧ k_ ≠ gb283 ∧ k_ ≠ gb289 ∧ k_ ≠ gb294 ∧ k_ ≠ gb299 ∧ k_ ≠ gb304) (.slice Ao147 t313.length co147) t313) := ⟨by (with_reducible repeat (first | apply Kd.R_alloc | apply Kd.R_drewN | apply Kd.R_drew)); exact Kd.R_mono (Kd.R_far (p := ⟨gb326, 2, none⟩) (Kd.R_far (p := ⟨gb326, 1, none⟩) (Kd.R_far (p := ⟨gb326, 0, none⟩) (Kd.R_types HO315.out BK326.out (by decide)) (fun _ hk => hk.2) (.slice Ao161 t320.length co161)) (fun _ hk => hk.2) (.string t323)) (fun _ hk => hk.2) (.bool t324)) (fun _ hk => ⟨hk.1.1.1.1.1.1.1.1.1.1.2, ⟨hk.1.1.1.1.1.1.1.1.1.2, ⟨hk.1.2, ⟨hk.1.1.1.1.1.1.1.1.2, ⟨hk.1.1.1.1.1.1.1.2, ⟨hk.1.1.1.1.1.1.2, ⟨hk.1.1.1.1.1.2, ⟨hk.1.1.1.1.2, ⟨hk.1.1.1.2, hk.1.1.2⟩⟩⟩⟩⟩⟩⟩⟩⟩)⟩
    have n3_ : Aside0 (Kd.R k41 41 (((w160.setCell ⟨gb326, 0, none⟩ (.slice Ao161 t320.length co161)).setCell ⟨gb326, 1, none⟩ (.string t323)).setCell ⟨gb326, 2, none⟩ (.bool t324)) w.heap.size (fun k_ => some k_ ≠ (.slice Ao7 t249.length co7 : Value).ownBlock ∧ some k_ ≠ (.slice Ao139 t306.length co139 : Value).ownBlock ∧ some k_ ≠ (.slice Ao147 t313.length co147 : Value).ownBlock ∧ k_ ≠ gb272 ∧ k_ ≠ gb277 ∧ k_ ≠ gb283 ∧ k_ ≠ gb289 ∧ k_ ≠ gb294 ∧ k_ ≠ gb299 ∧ k_ ≠ gb304) (.slice Ao161 t320.length co161) t320) := ⟨by (with_reducible repeat (first | apply Kd.R_alloc | apply Kd.R_drewN | apply Kd.R_drew)); exact Kd.R_mono (Kd.R_far (p := ⟨gb326, 2, none⟩) (Kd.R_far (p := ⟨gb326, 1, none⟩) (Kd.R_far (p := ⟨gb326, 0, none⟩) (Kd.R_types HO322.out BK326.out (by decide)) (fun _ hk => hk.2) (.slice Ao161 t320.length co161)) (fun _ hk => hk.2) (.string t323)) (fun _ hk => hk.2) (.bool t324)) (fun _ hk => ⟨hk.1.1.1.1.1.1.1.1.1.1.2, ⟨hk.1.1.1.1.1.1.1.1.1.2, ⟨hk.1.1.1.1.1.1.1.1.2, ⟨hk.1.1.1.1.1.1.1.2, ⟨hk.1.1.1.1.1.1.2, ⟨hk.1.1.1.1.1.2, ⟨hk.1.1.1.1.2, ⟨hk.1.1.1.2, ⟨hk.1.1.2, hk.1.2⟩⟩⟩⟩⟩⟩⟩⟩⟩)⟩
    have n4_ : Aside0 ((((w160.setCell ⟨gb326, 0, none⟩ (.slice Ao161 t320.length co161)).setCell ⟨gb326, 1, none⟩ (.string t323)).setCell ⟨gb326, 2, none⟩ (.bool t324)).heap[gb255]? = some (.cells #[.slice Ao7 t249.length co7, .string t252, .bool t253] 24 (0, 0))) := ⟨by (with_reducible repeat (first | refine blk_drewN ?_ _ | refine blk_drew ?_ | refine blk_alloc ?_ _)); refine blk_far ?_ NB255_326.out _; (with_reducible repeat (first | refine blk_drewN ?_ _ | refine blk_drew ?_ | refine blk_alloc ?_ _)); refine blk_far ?_ NB255_326.out _; (with_reducible repeat (first | refine blk_drewN ?_ _ | refine blk_drew ?_ | refine blk_alloc ?_ _)); refine blk_far ?_ NB255_326.out _; (with_reducible repeat (first | refine blk_drewN ?_ _ | refine blk_drew ?_ | refine blk_alloc ?_ _)); exact BK255.out⟩
    have n5_ : Aside0 ((((w160.setCell ⟨gb326, 0, none⟩ (.slice Ao161 t320.length co161)).setCell ⟨gb326, 1, none⟩ (.string t323)).setCell ⟨gb326, 2, none⟩ (.bool t324)).heap[gb272]? = some (.cells #[.string t268, .string t269, .string t270] 41 (0, 0))) := ⟨by (with_reducible repeat (first | refine blk_drewN ?_ _ | refine blk_drew ?_ | refine blk_alloc ?_ _)); refine blk_far ?_ NB272_326.out _; (with_reducible repeat (first | refine blk_drewN ?_ _ | refine blk_drew ?_ | refine blk_alloc ?_ _)); refine blk_far ?_ NB272_326.out _; (with_reducible repeat (first | refine blk_drewN ?_ _ | refine blk_drew ?_ | refine blk_alloc ?_ _)); refine blk_far ?_ NB272_326.out _; (with_reducible repeat (first | refine blk_drewN ?_ _ | refine blk_drew ?_ | refine blk_alloc ?_ _)); exact BK272.out⟩
    have n6_ : Aside0 ((((w160.setCell ⟨gb326, 0, none⟩ (.slice Ao161 t320.length co161)).setCell ⟨gb326, 1, none⟩ (.string t323)).setCell ⟨gb326, 2, none⟩ (.bool t324)).heap[gb277]? = some (.cells #[.string t273, .string t274, .string t275] 41 (0, 0))) := ⟨by (with_reducible repeat (first | refine blk_drewN ?_ _ | refine blk_drew ?_ | refine blk_alloc ?_ _)); refine blk_far ?_ NB277_326.out _; (with_reducible repeat (first | refine blk_drewN ?_ _ | refine blk_drew ?_ | refine blk_alloc ?_ _)); refine blk_far ?_ NB277_326.out _; (with_reducible repeat (first | refine blk_drewN ?_ _ | refine blk_drew ?_ | refine blk_alloc ?_ _)); refine blk_far ?_ NB277_326.out _; (with_reducible repeat (first | refine blk_drewN ?_ _ | refine blk_drew ?_ | refine blk_alloc ?_ _)); exact BK277.out⟩
    have n7_ : Aside0 ((((w160.setCell ⟨gb326, 0, none⟩ (.slice Ao161 t320.length co161)).setCell ⟨gb326, 1, none⟩ (.string t323)).setCell ⟨gb326, 2, none⟩ (.bool t324)).heap[gb283]? = some (.cells #[.string t279, .string t280, .string t281] 41 (0, 0))) := ⟨by (with_reducible repeat (first | refine blk_drewN ?_ _ | refine blk_drew ?_ | refine blk_alloc ?_ _)); refine blk_far ?_ NB283_326.out _; (with_reducible repeat (first | refine blk_drewN ?_ _ | refine blk_drew ?_ | refine blk_alloc ?_ _)); refine blk_far ?_ NB283_326.out _; (with_reducible repeat (first | refine blk_drewN ?_ _ | refine blk_drew ?_ | refine blk_alloc ?_ _)); refine blk_far ?_ NB283_326.out _; (with_reducible repeat (first | refine blk_drewN ?_ _ | refine blk_drew ?_ | refine blk_alloc ?_ _)); exact BK283.out⟩
    have n8_ : Aside0 ((((w160.setCell ⟨gb326, 0, none⟩ (.slice Ao161 t320.length co161)).setCell ⟨gb326, 1, none⟩ (.string t323)).setCell ⟨gb326, 2, none⟩ (.bool t324)).heap[gb289]? = some (.cells #[.string t285, .string t286, .string t287] 41 (0, 0))) := ⟨by (with_reducible repeat (first | refine blk_drewN ?_ _ | refine blk_drew ?_ | refine blk_alloc ?_ _)); refine blk_far ?_ NB289_326.out _; (with_reducible repeat (first | refine blk_drewN ?_ _ | refine blk_drew ?_ | refine blk_alloc ?_ _)); refine blk_far ?_ NB289_326.out _; (with_reducible repeat (first | refine blk_drewN ?_ _ | refine blk_drew ?_ | refine blk_alloc ?_ _)); refine blk_far ?_ NB289_326.out _; (with_reducible repeat (first | refine blk_drewN ?_ _ | refine blk_drew ?_ | refine blk_alloc ?_ _)); exact BK289.out⟩
    have n9_ : Aside0 ((((w160.setCell ⟨gb326, 0, none⟩ (.slice Ao161 t320.length co161)).setCell ⟨gb326, 1, none⟩ (.string t323)).setCell ⟨gb326, 2, none⟩ (.bool t324)).heap[gb294]? = some (.cells #[.string t290, .string t291, .string t292] 41 (0, 0))) := ⟨by (with_reducible repeat (first | refine blk_drewN ?_ _ | refine blk_drew ?_ | refine blk_alloc ?_ _)); refine blk_far ?_ NB294_326.out _; (with_reducible repeat (first | refine blk_drewN ?_ _ | refine blk_drew ?_ | refine blk_alloc ?_ _)); refine blk_far ?_ NB294_326.out _; (with_reducible repeat (first | refine blk_drewN ?_ _ | refine blk_drew ?_ | refine blk_alloc ?_ _)); refine blk_far ?_ NB294_326.out _; (with_reducible repeat (first | refine blk_drewN ?_ _ | refine blk_drew ?_ | refine blk_alloc ?_ _)); exact BK294.out⟩
    have n10_ : Aside0 ((((w160.setCell ⟨gb326, 0, none⟩ (.slice Ao161 t320.length co161)).setCell ⟨gb326, 1, none⟩ (.string t323)).setCell ⟨gb326, 2, none⟩ (.bool t324)).heap[gb299]? = some (.cells #[.string t295, .string t296, .string t297] 41 (0, 0))) := ⟨by (with_reducible repeat (first | refine blk_drewN ?_ _ | refine blk_drew ?_ | refine blk_alloc ?_ _)); refine blk_far ?_ NB299_326.out _; (with_reducible repeat (first | refine blk_drewN ?_ _ | refine blk_drew ?_ | refine blk_alloc ?_ _)); refine blk_far ?_ NB299_326.out _; (with_reducible repeat (first | refine blk_drewN ?_ _ | refine blk_drew ?_ | refine blk_alloc ?_ _)); refine blk_far ?_ NB299_326.out _; (with_reducible repeat (first | refine blk_drewN ?_ _ | refine blk_drew ?_ | refine blk_alloc ?_ _)); exact BK299.out⟩
    have n11_ : Aside0 ((((w160.setCell ⟨gb326, 0, none⟩ (.slice Ao161 t320.length co161)).setCell ⟨gb326, 1, none⟩ (.string t323)).setCell ⟨gb326, 2, none⟩ (.bool t324)).heap[gb304]? = some (.cells #[.string t300, .string t301, .string t302] 41 (0, 0))) := ⟨by (with_reducible repeat (first | refine blk_drewN ?_ _ | refine blk_drew ?_ | refine blk_alloc ?_ _)); refine blk_far ?_ NB304_326.out _; (with_reducible repeat (first | refine blk_drewN ?_ _ | refine blk_drew ?_ | refine blk_alloc ?_ _)); refine blk_far ?_ NB304_326.out _; (with_reducible repeat (first | refine blk_drewN ?_ _ | refine blk_drew ?_ | refine blk_alloc ?_ _)); refine blk_far ?_ NB304_326.out _; (with_reducible repeat (first | refine blk_drewN ?_ _ | refine blk_drew ?_ | refine blk_alloc ?_ _)); exact BK304.out⟩
    have n12_ : Aside0 ((((w160.setCell ⟨gb326, 0, none⟩ (.slice Ao161 t320.length co161)).setCell ⟨gb326, 1, none⟩ (.string t323)).setCell ⟨gb326, 2, none⟩ (.bool t324)).heap[gb312]? = some (.cells #[.slice Ao139 t306.length co139, .string t309, .bool t310] 24 (0, 0))) := ⟨by (with_reducible repeat (first | refine blk_drewN ?_ _ | refine blk_drew ?_ | refine blk_alloc ?_ _)); refine blk_far ?_ NB312_326.out _; (with_reducible repeat (first | refine blk_drewN ?_ _ | refine blk_drew ?_ | refine blk_alloc ?_ _)); refine blk_far ?_ NB312_326.out _; (with_reducible repeat (first | refine blk_drewN ?_ _ | refine blk_drew ?_ | refine blk_alloc ?_ _)); refine blk_far ?_ NB312_326.out _; (with_reducible repeat (first | refine blk_drewN ?_ _ | refine blk_drew ?_ | refine blk_alloc ?_ _)); exact BK312.out⟩
    have n13_ : Aside0 ((((w160.setCell ⟨gb326, 0, none⟩ (.slice Ao161 t320.length co161)).setCell ⟨gb326, 1, none⟩ (.string t323)).setCell ⟨gb326, 2, none⟩ (.bool t324)).heap[gb319]? = some (.cells #[.slice Ao147 t313.length co147, .string t316, .bool t317] 24 (0, 0))) := ⟨by (with_reducible repeat (first | refine blk_drewN ?_ _ | refine blk_drew ?_ | refine blk_alloc ?_ _)); refine blk_far ?_ NB319_326.out _; (with_reducible repeat (first | refine blk_drewN ?_ _ | refine blk_drew ?_ | refine blk_alloc ?_ _)); refine blk_far ?_ NB319_326.out _; (with_reducible repeat (first | refine blk_drewN ?_ _ | refine blk_drew ?_ | refine blk_alloc ?_ _)); refine blk_far ?_ NB319_326.out _; (with_reducible repeat (first | refine blk_drewN ?_ _ | refine blk_drew ?_ | refine blk_alloc ?_ _)); exact BK319.out⟩
    have n14_ : Aside0 ((((w160.setCell ⟨gb326, 0, none⟩ (.slice Ao161 t320.length co161)).setCell ⟨gb326, 1, none⟩ (.string t323)).setCell ⟨gb326, 2, none⟩ (.bool t324)).heap[gb326]? = some (.cells #[.slice Ao161 t320.length co161, .string t323, .bool t324] 24 (0, 0))) := ⟨by (with_reducible repeat (first | refine blk_drewN ?_ _ | refine blk_drew ?_ | refine blk_alloc ?_ _)); refine blk_put (cs := #[.slice Ao161 t320.length co161, .string t323, .bool false]) ?_ 2 _ rfl; (with_reducible repeat (first | refine blk_drewN ?_ _ | refine blk_drew ?_ | refine blk_alloc ?_ _)); refine blk_put (cs := #[.slice Ao161 t320.length co161, .string (⟨#[]⟩ : ByteArray), .bool false]) ?_ 1 _ rfl; (with_reducible repeat (first | refine blk_drewN ?_ _ | refine blk_drew ?_ | refine blk_alloc ?_ _)); refine blk_put (cs := #[.slice none 0 0, .string (⟨#[]⟩ : ByteArray), .bool false]) ?_ 0 _ rfl; (with_reducible repeat (first | refine blk_drewN ?_ _ | refine blk_drew ?_ | refine blk_alloc ?_ _)); exact BK326.out⟩
    have n15_ : Aside0 (Below w.heap.size w (((w160.setCell ⟨gb326, 0, none⟩ (.slice Ao161 t320.length co161)).setCell ⟨gb326, 1, none⟩ (.string t323)).setCell ⟨gb326, 2, none⟩ (.bool t324))) := ⟨by repeat (first | (with_reducible first | exact HB.out | apply below_alloc | apply pw_below_drewN | apply below_drew1 | refine below_set ?_ GE255.out | refine below_set ?_ GE272.out | refine below_set ?_ GE277.out | refine below_set ?_ GE283.out | refine below_set ?_ GE289.out | refine below_set ?_ GE294.out | refine below_set ?_ GE299.out | refine below_set ?_ GE304.out | refine below_set ?_ GE312.out | refine below_set ?_ GE319.out | refine below_set ?_ GE326.out) | exact HB.out)⟩
    (try clear HO_256000)
    (try clear HO308)
    (try clear HO315)
    (try clear HO322)
    (try clear BK255)
    (try clear BK272)
    (try clear BK277)
    (try clear BK283)
    (try clear BK289)
    (try clear BK294)
    (try clear BK299)
    (try clear BK304)
    (try clear BK312)
    (try clear BK319)
    (try clear BK326)
    (try clear HB)
    generalize (((w160.setCell ⟨gb326, 0, none⟩ (.slice Ao161 t320.length co161)).setCell ⟨gb326, 1, none⟩ (.string t323)).setCell ⟨gb326, 2, none⟩ (.bool t324)) = w173 at n0_ n1_ n2_ n3_ n4_ n5_ n6_ n7_ n8_ n9_ n10_ n11_ n12_ n13_ n14_ n15_ ⊢
    have HO_256000 := n0_
    have HO308 := n1_
    have HO315 := n2_
    have HO322 := n3_
    have BK255 := n4_
    have BK272 := n5_
    have BK277 := n6_
    have BK283 := n7_
    have BK289 := n8_
    have BK294 := n9_
    have BK299 := n10_
    have BK304 := n11_
    have BK312 := n12_
    have BK319 := n13_
    have BK326 := n14_
    have HB := n15_
    clear n0_ n1_ n2_ n3_ n4_ n5_ n6_ n7_ n8_ n9_ n10_ n11_ n12_ n13_ n14_ n15_
    have n0_ := Aside0.mk (Kd.R_drew HO_256000.out)
    have n1_ := Aside0.mk (Kd.R_drew HO308.out)
    have n2_ := Aside0.mk (Kd.R_drew HO315.out)
    have n3_ := Aside0.mk (Kd.R_drew HO322.out)
    have n4_ := Aside0.mk (blk_drew BK255.out)
    have n5_ := Aside0.mk (blk_drew BK272.out)
    have n6_ := Aside0.mk (blk_drew BK277.out)
    have n7_ := Aside0.mk (blk_drew BK283.out)
    have n8_ := Aside0.mk (blk_drew BK289.out)
    have n9_ := Aside0.mk (blk_drew BK294.out)
    have n10_ := Aside0.mk (blk_drew BK299.out)
    have n11_ := Aside0.mk (blk_drew BK304.out)
    have n12_ := Aside0.mk (blk_drew BK312.out)
    have n13_ := Aside0.mk (blk_drew BK319.out)
    have n14_ := Aside0.mk (blk_drew BK326.out)
    have n15_ := Aside0.mk (below_drew1 HB.out)
    clear HO_256000
    clear HO308
    clear HO315
    clear HO322
    clear BK255
    clear BK272
    clear BK277
    clear BK283
    clear BK289
    clear BK294
    clear BK299
    clear BK304
    clear BK312
    clear BK319
    clear BK326
    clear HB
    have HO_256000 := n0_
    have HO308 := n1_
    have HO315 := n2_
    have HO322 := n3_
    have BK255 := n4_
    have BK272 := n5_
    have BK277 := n6_
    have BK283 := n7_
    have BK289 := n8_
    have BK294 := n9_
    have BK299 := n10_
    have BK304 := n11_
    have BK312 := n12_
    have BK319 := n13_
    have BK326 := n14_
    have HB := n15_
    clear n0_ n1_ n2_ n3_ n4_ n5_ n6_ n7_ n8_ n9_ n10_ n11_ n12_ n13_ n14_ n15_
    refine start_ (n := 79) (S := fun w' => w'.cell? ⟨gb272, 0, none⟩ = some (.string t268) ∧ w'.cell? ⟨gb272, 1, none⟩ = some (.string t269) ∧ w'.cell? ⟨gb272, 2, none⟩ = some (.string t270) ∧ w'.cell? ⟨gb277, 0, none⟩ = some (.string t273) ∧ w'.cell? ⟨gb277, 1, none⟩ = some (.string t274) ∧ w'.cell? ⟨gb277, 2, none⟩ = some (.string t275) ∧ w'.cell? ⟨gb283, 0, none⟩ = some (.string t279) ∧ w'.cell? ⟨gb283, 1, none⟩ = some (.string t280) ∧ w'.cell? ⟨gb283, 2, none⟩ = some (.string t281) ∧ w'.cell? ⟨gb289, 0, none⟩ = some (.string t285) ∧ w'.cell? ⟨gb289, 1, none⟩ = some (.string t286) ∧ w'.cell? ⟨gb289, 2, none⟩ = some (.string t287)) (ds := []) #[false, false, false, false, false, false, false, false, false, false, false, false, false, false, false, false, false, false, false, false, false, false, false, false, false, false, false, false, false, false, false, false, false, false, false, false, false, false, false, false, false, false, false, false, false, false, false, false, false, false, false, false, false, false, false, false, false, false, false, false, false, false, false, false, false, false, false, false, false, false, false, false, false, false, false, false, false, false, false] (by kernel_rfl) rfl rfl ⟨(blk_cell BK272.out 0).trans rfl, (blk_cell BK272.out 1).trans rfl, (blk_cell BK272.out 2).trans rfl, (blk_cell BK277.out 0).trans rfl, (blk_cell BK277.out 1).trans rfl, (blk_cell BK277.out 2).trans rfl, (blk_cell BK283.out 0).trans rfl, (blk_cell BK283.out 1).trans rfl, (blk_cell BK283.out 2).trans rfl, (blk_cell BK289.out 0).trans rfl, (blk_cell BK289.out 1).trans rfl, (blk_cell BK289.out 2).trans rfl⟩ (fun hHeld => ?_); refine with_tabW postriderlaw07_HeadKnown.tab21 postriderlaw07_HeadKnown.bits21 (fun HT_ HW_ => ?_)
    generalize w173.drew = w174 at HO_256000 HO308 HO315 HO322 BK255 BK272 BK277 BK283 BK289 BK294 BK299 BK304 BK312 BK319 BK326 HB hHeld ⊢
    refine pure_ (i := 0) (N := some 158) (v := ?_) (a' := ?_) (tf 1 78) rfl rfl (any_of HT_.out (by kernel_rfl)) (fun _ _ _ h => h) (Or.inl ⟨by rfl, ?_⟩) ?_ ?_
    rotate_left
    ·intro w'
     go_simp
     with_reducible rfl
    rotate_left
    ·simp only [Act.put, List.setIfInBounds_toArray, List.set_cons_zero, List.set_cons_succ, i64_w, i32_w]
     rfl
    refine pure_ (i := 1) (N := some 159) (v := ?_) (a' := ?_) (tf 2 77) rfl rfl (any_of HT_.out (by kernel_rfl)) (fun _ _ _ h => h) (Or.inl ⟨by rfl, ?_⟩) ?_ ?_
    rotate_left
    ·intro w'
     go_simp
     with_reducible rfl
    rotate_left
    ·simp only [Act.put, List.setIfInBounds_toArray, List.set_cons_zero, List.set_cons_succ, i64_w, i32_w]
     rfl
    refine pure_ (i := 2) (N := some 160) (v := ?_) (a' := ?_) (tf 3 76) rfl rfl (any_of HT_.out (by kernel_rfl)) (fun _ _ _ h => h) (Or.inl ⟨by rfl, ?_⟩) ?_ ?_
    rotate_left
    ·intro w'
     go_simp
     with_reducible rfl
    rotate_left
    ·simp only [Act.put, List.setIfInBounds_toArray, List.set_cons_zero, List.set_cons_succ, i64_w, i32_w]
     rfl
    refine pure_ (i := 3) (N := some 161) (v := ?_) (a' := ?_) (tf 4 75) rfl rfl (any_of HT_.out (by kernel_rfl)) (fun _ _ _ h => h) (Or.inl ⟨by rfl, ?_⟩) ?_ ?_
    rotate_left
    ·intro w'
     go_simp
     with_reducible rfl
    rotate_left
    ·simp only [Act.put, List.setIfInBounds_toArray, List.set_cons_zero, List.set_cons_succ, i64_w, i32_w]
     rfl
    refine pure_ (i := 5) (N := some 163) (v := ?_) (a' := ?_) #[true, true, true, true, false, true, false, false, false, false, false, false, false, false, false, false, false, false, false, false, false, false, false, false, false, false, false, false, false, false, false, false, false, false, false, false, false, false, false, false, false, false, false, false, false, false, false, false, false, false, false, false, false, false, false, false, false, false, false, false, false, false, false, false, false, false, false, false, false, false, false, false, false, false, false, false, false, false, false] rfl rfl (any_of HT_.out (by kernel_rfl)) (fun _ _ _ h => h) (Or.inl ⟨by rfl, ?_⟩) ?_ ?_
    rotate_left
    ·intro w'
     go_simp
     with_reducible rfl
    rotate_left
    ·simp only [Act.put, List.setIfInBounds_toArray, List.set_cons_zero, List.set_cons_succ, i64_w, i32_w]
     rfl
    refine pure_ (i := 6) (N := some 164) (v := ?_) (a' := ?_) #[true, true, true, true, false, true, true, false, false, false, false, false, false, false, false, false, false, false, false, false, false, false, false, false, false, false, false, false, false, false, false, false, false, false, false, false, false, false, false, false, false, false, false, false, false, false, false, false, false, false, false, false, false, false, false, false, false, false, false, false, false, false, false, false, false, false, false, false, false, false, false, false, false, false, false, false, false, false, false] rfl rfl (any_of HT_.out (by kernel_rfl)) (fun _ _ _ h => h) (Or.inl ⟨by rfl, ?_⟩) ?_ ?_
    rotate_left
    ·intro w'
     go_simp
     with_reducible rfl
    rotate_left
    ·simp only [Act.put, List.setIfInBounds_toArray, List.set_cons_zero, List.set_cons_succ, i64_w, i32_w]
     rfl
    refine pure_ (i := 7) (N := some 165) (v := ?_) (a' := ?_) #[true, true, true, true, false, true, true, true, false, false, false, false, false, false, false, false, false, false, false, false, false, false, false, false, false, false, false, false, false, false, false, false, false, false, false, false, false, false, false, false, false, false, false, false, false, false, false, false, false, false, false, false, false, false, false, false, false, false, false, false, false, false, false, false, false, false, false, false, false, false, false, false, false, false, false, false, false, false, false] rfl rfl (any_of HT_.out (by kernel_rfl)) (fun _ _ _ h => h) (Or.inl ⟨by rfl, ?_⟩) ?_ ?_
    rotate_left
    ·intro w'
     go_simp
     with_reducible rfl
    rotate_left
    ·simp only [Act.put, List.setIfInBounds_toArray, List.set_cons_zero, List.set_cons_succ, i64_w, i32_w]
     rfl
    refine pure_ (i := 8) (N := some 166) (v := ?_) (a' := ?_) #[true, true, true, true, false, true, true, true, true, false, false, false, false, false, false, false, false, false, false, false, false, false, false, false, false, false, false, false, false, false, false, false, false, false, false, false, false, false, false, false, false, false, false, false, false, false, false, false, false, false, false, false, false, false, false, false, false, false, false, false, false, false, false, false, false, false, false, false, false, false, false, false, false, false, false, false, false, false, false] rfl rfl (any_of HT_.out (by kernel_rfl)) (fun _ _ _ h => h) (Or.inl ⟨by rfl, ?_⟩) ?_ ?_
    rotate_left
    ·intro w'
     go_simp
     with_reducible rfl
    rotate_left
    ·simp only [Act.put, List.setIfInBounds_toArray, List.set_cons_zero, List.set_cons_succ, i64_w, i32_w]
     rfl
    refine pure_ (i := 9) (N := some 167) (v := ?_) (a' := ?_) #[true, true, true, true, false, true, true, true, true, true, false, false, false, false, false, false, false, false, false, false, false, false, false, false, false, false, false, false, false, false, false, false, false, false, false, false, false, false, false, false, false, false, false, false, false, false, false, false, false, false, false, false, false, false, false, false, false, false, false, false, false, false, false, false, false, false, false, false, false, false, false, false, false, false, false, false, false, false, false] rfl rfl (any_of HT_.out (by kernel_rfl)) (fun _ _ _ h => h) (Or.inl ⟨by rfl, ?_⟩) ?_ ?_
    rotate_left
    ·intro w'
     go_simp
     with_reducible rfl
    rotate_left
    ·simp only [Act.put, List.setIfInBounds_toArray, List.set_cons_zero, List.set_cons_succ, i64_w, i32_w]
     rfl
    refine pure_ (i := 10) (N := some 168) (v := ?_) (a' := ?_) #[true, true, true, true, false, true, true, true, true, true, true, false, false, false, false, false, false, false, false, false, false, false, false, false, false, false, false, false, false, false, false, false, false, false, false, false, false, false, false, false, false, false, false, false, false, false, false, false, false, false, false, false, false, false, false, false, false, false, false, false, false, false, false, false, false, false, false, false, false, false, false, false, false, false, false, false, false, false, false] rfl rfl (any_of HT_.out (by kernel_rfl)) (fun _ _ _ h => h) (Or.inl ⟨by rfl, ?_⟩) ?_ ?_
    rotate_left
    ·intro w'
     go_simp
     with_reducible rfl
    rotate_left
    ·simp only [Act.put, List.setIfInBounds_toArray, List.set_cons_zero, List.set_cons_succ, i64_w, i32_w]
     rfl
    refine take_ (i := 4) (N := some 162) (v := ?_) (a' := ?_) #[true, true, true, true, true, true, true, true, true, true, true, false, false, false, false, false, false, false, false, false, false, false, false, false, false, false, false, false, false, false, false, false, false, false, false, false, false, false, false, false, false, false, false, false, false, false, false, false, false, false, false, false, false, false, false, false, false, false, false, false, false, false, false, false, false, false, false, false, false, false, false, false, false, false, false, false, false, false, false] rfl rfl (take_ofW HT_.out HW_.out (by kernel_rfl)) (fun _ _ _ h => h) (Or.inl ⟨by rfl, ?_⟩) hHeld ?_ ?_
    rotate_left
    ·rintro w' ⟨s0, s1, s2, s3, s4, s5, s6, s7, s8, s9, s10, s11⟩
     go_simp
     with_reducible rfl
    rotate_left
    ·simp only [Act.put, List.setIfInBounds_toArray, List.set_cons_zero, List.set_cons_succ, i64_w, i32_w]
     rfl
    refine pure_ (i := 11) (N := some 169) (v := ?_) (a' := ?_) (tf 12 67) rfl rfl (any_of HT_.out (by kernel_rfl)) (fun _ _ _ h => h) (Or.inl ⟨by rfl, ?_⟩) ?_ ?_
    rotate_left
    ·intro w'
     go_simp
     with_reducible rfl
    rotate_left
    ·simp only [Act.put, List.setIfInBounds_toArray, List.set_cons_zero, List.set_cons_succ, i64_w, i32_w]
     rfl
    refine pure_ (i := 12) (N := some 170) (v := ?_) (a' := ?_) (tf 13 66) rfl rfl (any_of HT_.out (by kernel_rfl)) (fun _ _ _ h => h) (Or.inl ⟨by rfl, ?_⟩) ?_ ?_
    rotate_left
    ·intro w'
     go_simp
     with_reducible rfl
    rotate_left
    ·simp only [Act.put, List.setIfInBounds_toArray, List.set_cons_zero, List.set_cons_succ, i64_w, i32_w]
     rfl
    refine pure_ (i := 13) (N := some 171) (v := ?_) (a' := ?_) (tf 14 65) rfl rfl (any_of HT_.out (by kernel_rfl)) (fun _ _ _ h => h) (Or.inl ⟨by rfl, ?_⟩) ?_ ?_
    rotate_left
    ·intro w'
     go_simp
     with_reducible rfl
    rotate_left
    ·simp only [Act.put, List.setIfInBounds_toArray, List.set_cons_zero, List.set_cons_succ, i64_w, i32_w]
     rfl
    refine pure_ (i := 14) (N := some 172) (v := ?_) (a' := ?_) (tf 15 64) rfl rfl (any_of HT_.out (by kernel_rfl)) (fun _ _ _ h => h) (Or.inl ⟨by rfl, ?_⟩) ?_ ?_
    rotate_left
    ·intro w'
     go_simp
     with_reducible rfl
    rotate_left
    ·simp only [Act.put, List.setIfInBounds_toArray, List.set_cons_zero, List.set_cons_succ, i64_w, i32_w]
     rfl
    refine pure_ (i := 15) (N := some 173) (v := ?_) (a' := ?_) (tf 16 63) rfl rfl (any_of HT_.out (by kernel_rfl)) (fun _ _ _ h => h) (Or.inl ⟨by rfl, ?_⟩) ?_ ?_
    rotate_left
    ·intro w'
     go_simp
     with_reducible rfl
    rotate_left
    ·simp only [Act.put, List.setIfInBounds_toArray, List.set_cons_zero, List.set_cons_succ, i64_w, i32_w]
     rfl
    refine pure_ (i := 16) (N := some 174) (v := ?_) (a' := ?_) (tf 17 62) rfl rfl (any_of HT_.out (by kernel_rfl)) (fun _ _ _ h => h) (Or.inl ⟨by rfl, ?_⟩) ?_ ?_
    rotate_left
    ·intro w'
     go_simp
     with_reducible rfl
    rotate_left
    ·simp only [Act.put, List.setIfInBounds_toArray, List.set_cons_zero, List.set_cons_succ, i64_w, i32_w]
     rfl
    refine pure_ (i := 17) (N := some 175) (v := ?_) (a' := ?_) (tf 18 61) rfl rfl (any_of HT_.out (by kernel_rfl)) (fun _ _ _ h => h) (Or.inl ⟨by rfl, ?_⟩) ?_ ?_
    rotate_left
    ·intro w'
     go_simp
     with_reducible rfl
    rotate_left
    ·simp only [Act.put, List.setIfInBounds_toArray, List.set_cons_zero, List.set_cons_succ, i64_w, i32_w]
     rfl
    refine pure_ (i := 18) (N := some 176) (v := ?_) (a' := ?_) (tf 19 60) rfl rfl (any_of HT_.out (by kernel_rfl)) (fun _ _ _ h => h) (Or.inl ⟨by rfl, ?_⟩) ?_ ?_
    rotate_left
    ·intro w'
     go_simp
     with_reducible rfl
    rotate_left
    ·simp only [Act.put, List.setIfInBounds_toArray, List.set_cons_zero, List.set_cons_succ, i64_w, i32_w]
     rfl
    refine pure_ (i := 20) (N := some 178) (v := ?_) (a' := ?_) #[true, true, true, true, true, true, true, true, true, true, true, true, true, true, true, true, true, true, true, false, true, false, false, false, false, false, false, false, false, false, false, false, false, false, false, false, false, false, false, false, false, false, false, false, false, false, false, false, false, false, false, false, false, false, false, false, false, false, false, false, false, false, false, false, false, false, false, false, false, false, false, false, false, false, false, false, false, false, false] rfl rfl (any_of HT_.out (by kernel_rfl)) (fun _ _ _ h => h) (Or.inl ⟨by rfl, ?_⟩) ?_ ?_
    rotate_left
    ·intro w'
     go_simp
     with_reducible rfl
    rotate_left
    ·simp only [Act.put, List.setIfInBounds_toArray, List.set_cons_zero, List.set_cons_succ, i64_w, i32_w]
     rfl
    refine pure_ (i := 21) (N := some 179) (v := ?_) (a' := ?_) #[true, true, true, true, true, true, true, true, true, true, true, true, true, true, true, true, true, true, true, false, true, true, false, false, false, false, false, false, false, false, false, false, false, false, false, false, false, false, false, false, false, false, false, false, false, false, false, false, false, false, false, false, false, false, false, false, false, false, false, false, false, false, false, false, false, false, false, false, false, false, false, false, false, false, false, false, false, false, false] rfl rfl (any_of HT_.out (by kernel_rfl)) (fun _ _ _ h => h) (Or.inl ⟨by rfl, ?_⟩) ?_ ?_
    rotate_left
    ·intro w'
     go_simp
     with_reducible rfl
    rotate_left
    ·simp only [Act.put, List.setIfInBounds_toArray, List.set_cons_zero, List.set_cons_succ, i64_w, i32_w]
     rfl
    refine pure_ (i := 22) (N := some 180) (v := ?_) (a' := ?_) #[true, true, true, true, true, true, true, true, true, true, true, true, true, true, true, true, true, true, true, false, true, true, true, false, false, false, false, false, false, false, false, false, false, false, false, false, false, false, false, false, false, false, false, false, false, false, false, false, false, false, false, false, false, false, false, false, false, false, false, false, false, false, false, false, false, false, false, false, false, false, false, false, false, false, false, false, false, false, false] rfl rfl (any_of HT_.out (by kernel_rfl)) (fun _ _ _ h => h) (Or.inl ⟨by rfl, ?_⟩) ?_ ?_
    rotate_left
    ·intro w'
     go_simp
     with_reducible rfl
    rotate_left
    ·simp only [Act.put, List.setIfInBounds_toArray, List.set_cons_zero, List.set_cons_succ, i64_w, i32_w]
     rfl
    refine pure_ (i := 23) (N := some 181) (v := ?_) (a' := ?_) #[true, true, true, true, true, true, true, true, true, true, true, true, true, true, true, true, true, true, true, false, true, true, true, true, false, false, false, false, false, false, false, false, false, false, false, false, false, false, false, false, false, false, false, false, false, false, false, false, false, false, false, false, false, false, false, false, false, false, false, false, false, false, false, false, false, false, false, false, false, false, false, false, false, false, false, false, false, false, false] rfl rfl (any_of HT_.out (by kernel_rfl)) (fun _ _ _ h => h) (Or.inl ⟨by rfl, ?_⟩) ?_ ?_
    rotate_left
    ·intro w'
     go_simp
     with_reducible rfl
    rotate_left
    ·simp only [Act.put, List.setIfInBounds_toArray, List.set_cons_zero, List.set_cons_succ, i64_w, i32_w]
     rfl
    refine pure_ (i := 24) (N := some 182) (v := ?_) (a' := ?_) #[true, true, true, true, true, true, true, true, true, true, true, true, true, true, true, true, true, true, true, false, true, true, true, true, true, false, false, false, false, false, false, false, false, false, false, false, false, false, false, false, false, false, false, false, false, false, false, false, false, false, false, false, false, false, false, false, false, false, false, false, false, false, false, false, false, false, false, false, false, false, false, false, false, false, false, false, false, false, false] rfl rfl (any_of HT_.out (by kernel_rfl)) (fun _ _ _ h => h) (Or.inl ⟨by rfl, ?_⟩) ?_ ?_
    rotate_left
    ·intro w'
     go_simp
     with_reducible rfl
    rotate_left
    ·simp only [Act.put, List.setIfInBounds_toArray, List.set_cons_zero, List.set_cons_succ, i64_w, i32_w]
     rfl
    refine take_ (i := 19) (N := some 177) (v := ?_) (a' := ?_) #[true, true, true, true, true, true, true, true, true, true, true, true, true, true, true, true, true, true, true, true, true, true, true, true, true, false, false, false, false, false, false, false, false, false, false, false, false, false, false, false, false, false, false, false, false, false, false, false, false, false, false, false, false, false, false, false, false, false, false, false, false, false, false, false, false, false, false, false, false, false, false, false, false, false, false, false, false, false, false] rfl rfl (take_ofW HT_.out HW_.out (by kernel_rfl)) (fun _ _ _ h => h) (Or.inl ⟨by rfl, ?_⟩) hHeld ?_ ?_
    rotate_left
    ·rintro w' ⟨s0, s1, s2, s3, s4, s5, s6, s7, s8, s9, s10, s11⟩
     go_simp
     with_reducible rfl
    rotate_left
    ·simp only [Act.put, List.setIfInBounds_toArray, List.set_cons_zero, List.set_cons_succ, i64_w, i32_w]
     rfl
    refine pure_ (i := 25) (N := some 183) (v := ?_) (a' := ?_) (tf 26 53) rfl rfl (any_of HT_.out (by kernel_rfl)) (fun _ _ _ h => h) (Or.inl ⟨by rfl, ?_⟩) ?_ ?_
    rotate_left
    ·intro w'
     go_simp
     with_reducible rfl
    rotate_left
    ·simp only [Act.put, List.setIfInBounds_toArray, List.set_cons_zero, List.set_cons_succ, i64_w, i32_w]
     rfl
    refine pure_ (i := 26) (N := some 184) (v := ?_) (a' := ?_) (tf 27 52) rfl rfl (any_of HT_.out (by kernel_rfl)) (fun _ _ _ h => h) (Or.inl ⟨by rfl, ?_⟩) ?_ ?_
    rotate_left
    ·intro w'
     go_simp
     with_reducible rfl
    rotate_left
    ·simp only [Act.put, List.setIfInBounds_toArray, List.set_cons_zero, List.set_cons_succ, i64_w, i32_w]
     rfl
    refine pure_ (i := 27) (N := some 185) (v := ?_) (a' := ?_) (tf 28 51) rfl rfl (any_of HT_.out (by kernel_rfl)) (fun _ _ _ h => h) (Or.inl ⟨by rfl, ?_⟩) ?_ ?_
    rotate_left
    ·intro w'
     go_simp
     with_reducible rfl
    rotate_left
    ·simp only [Act.put, List.setIfInBounds_toArray, List.set_cons_zero, List.set_cons_succ, i64_w, i32_w]
     rfl
    refine pure_ (i := 28) (N := some 186) (v := ?_) (a' := ?_) (tf 29 50) rfl rfl (any_of HT_.out (by kernel_rfl)) (fun _ _ _ h => h) (Or.inl ⟨by rfl, ?_⟩) ?_ ?_
    rotate_left
    ·intro w'
     go_simp
     with_reducible rfl
    rotate_left
    ·simp only [Act.put, List.setIfInBounds_toArray, List.set_cons_zero, List.set_cons_succ, i64_w, i32_w]
     rfl
    refine pure_ (i := 29) (N := some 187) (v := ?_) (a' := ?_) (tf 30 49) rfl rfl (any_of HT_.out (by kernel_rfl)) (fun _ _ _ h => h) (Or.inl ⟨by rfl, ?_⟩) ?_ ?_
    rotate_left
    ·intro w'
     go_simp
     with_reducible rfl
    rotate_left
    ·simp only [Act.put, List.setIfInBounds_toArray, List.set_cons_zero, List.set_cons_succ, i64_w, i32_w]
     rfl
    refine pure_ (i := 30) (N := some 188) (v := ?_) (a' := ?_) (tf 31 48) rfl rfl (any_of HT_.out (by kernel_rfl)) (fun _ _ _ h => h) (Or.inl ⟨by rfl, ?_⟩) ?_ ?_
    rotate_left
    ·intro w'
     go_simp
     with_reducible rfl
    rotate_left
    ·simp only [Act.put, List.setIfInBounds_toArray, List.set_cons_zero, List.set_cons_succ, i64_w, i32_w]
     rfl
    refine pure_ (i := 31) (N := some 189) (v := ?_) (a' := ?_) (tf 32 47) rfl rfl (any_of HT_.out (by kernel_rfl)) (fun _ _ _ h => h) (Or.inl ⟨by rfl, ?_⟩) ?_ ?_
    rotate_left
    ·intro w'
     go_simp
     with_reducible rfl
    rotate_left
    ·simp only [Act.put, List.setIfInBounds_toArray, List.set_cons_zero, List.set_cons_succ, i64_w, i32_w]
     rfl
    refine pure_ (i := 32) (N := some 190) (v := ?_) (a' := ?_) (tf 33 46) rfl rfl (any_of HT_.out (by kernel_rfl)) (fun _ _ _ h => h) (Or.inl ⟨by rfl, ?_⟩) ?_ ?_
    rotate_left
    ·intro w'
     go_simp
     with_reducible rfl
    rotate_left
    ·simp only [Act.put, List.setIfInBounds_toArray, List.set_cons_zero, List.set_cons_succ, i64_w, i32_w]
     rfl
    refine take_ (i := 33) (N := some 191) (v := ?_) (a' := ?_) #[true, true, true, true, true, true, true, true, true, true, true, true, true, true, true, true, true, true, true, true, true, true, true, true, true, true, true, true, true, true, true, true, true, true, false, false, false, false, false, false, false, false, false, false, false, false, false, false, false, false, false, false, false, false, false, false, false, false, false, false, false, false, false, false, false, false, false, false, false, false, false, false, false, false, false, false, false, false, false] rfl rfl (take_ofW HT_.out HW_.out (by kernel_rfl)) (fun _ _ _ h => h) (Or.inl ⟨by rfl, ?_⟩) hHeld ?_ ?_
    rotate_left
    ·rintro w' ⟨s0, s1, s2, s3, s4, s5, s6, s7, s8, s9, s10, s11⟩
     go_simp
     with_reducible rfl
    rotate_left
    ·simp only [Act.put, List.setIfInBounds_toArray, List.set_cons_zero, List.set_cons_succ, i64_w, i32_w]
     rfl
    refine one_ (i := 34) (N := some 192) #[true, true, true, true, true, true, true, true, true, true, true, true, true, true, true, true, true, true, true, true, true, true, true, true, true, true, true, true, true, true, true, true, true, true, true, false, false, false, false, false, false, false, false, false, false, false, false, false, false, false, false, false, false, false, false, false, false, false, false, false, false, false, false, false, false, false, false, false, false, false, false, false, false, false, false, false, false, false, false] rfl rfl (one_of HT_.out (by kernel_rfl)) (by decide) (fun K hK => ?_)
    refine goes_ Tryd.func38 (by kernel_rfl) rfl #[.string (⟨#[121]⟩ : ByteArray), .int .i64 74] (by rfl) rfl rfl ml ?_
    with_reducible refine (strings_Repeat.calls (⟨#[121]⟩ : ByteArray) 74 t278 _ A65.out).mono ?_
    rintro e w175 ⟨rfl, hb⟩
    refine ⟨_, rfl, ?_⟩
    have n0_ := Aside0.mk (Kd.R_below (kr HO_256000.out) hb)
    have n1_ := Aside0.mk (Kd.R_below (kr HO308.out) hb)
    have n2_ := Aside0.mk (Kd.R_below (kr HO315.out) hb)
    have n3_ := Aside0.mk (Kd.R_below (kr HO322.out) hb)
    have n4_ := Aside0.mk (kb BK255.out hb)
    have n5_ := Aside0.mk (kb BK272.out hb)
    have n6_ := Aside0.mk (kb BK277.out hb)
    have n7_ := Aside0.mk (kb BK283.out hb)
    have n8_ := Aside0.mk (kb BK289.out hb)
    have n9_ := Aside0.mk (kb BK294.out hb)
    have n10_ := Aside0.mk (kb BK299.out hb)
    have n11_ := Aside0.mk (kb BK304.out hb)
    have n12_ := Aside0.mk (kb BK312.out hb)
    have n13_ := Aside0.mk (kb BK319.out hb)
    have n14_ := Aside0.mk (kb BK326.out hb)
    have n15_ := Aside0.mk (below_step bl hb)
    clear HO_256000
    clear HO308
    clear HO315
    clear HO322
    clear BK255
    clear BK272
    clear BK277
    clear BK283
    clear BK289
    clear BK294
    clear BK299
    clear BK304
    clear BK312
    clear BK319
    clear BK326
    clear HB
    have HO_256000 := n0_
    have HO308 := n1_
    have HO315 := n2_
    have HO322 := n3_
    have BK255 := n4_
    have BK272 := n5_
    have BK277 := n6_
    have BK283 := n7_
    have BK289 := n8_
    have BK294 := n9_
    have BK299 := n10_
    have BK304 := n11_
    have BK312 := n12_
    have BK319 := n13_
    have BK326 := n14_
    have HB := n15_
    clear n0_ n1_ n2_ n3_ n4_ n5_ n6_ n7_ n8_ n9_ n10_ n11_ n12_ n13_ n14_ n15_
    (try clear hb)
    (try clear hb2)
    (try clear hk)
    (try clear hi)
    refine hK.out _ _ ⟨(blk_cell BK272.out 0).trans rfl, (blk_cell BK272.out 1).trans rfl, (blk_cell BK272.out 2).trans rfl, (blk_cell BK277.out 0).trans rfl, (blk_cell BK277.out 1).trans rfl, (blk_cell BK277.out 2).trans rfl, (blk_cell BK283.out 0).trans rfl, (blk_cell BK283.out 1).trans rfl, (blk_cell BK283.out 2).trans rfl, (blk_cell BK289.out 0).trans rfl, (blk_cell BK289.out 1).trans rfl, (blk_cell BK289.out 2).trans rfl⟩ (fun hHeld => ?_)
    clear hK K
    refine norm_ (a' := ?_) ?_ ?_
    rotate_left
    ·show Act.put _ (some 192) _ = _
     simp only [Act.put, List.setIfInBounds_toArray, List.set_cons_zero, List.set_cons_succ, i64_w, i32_w]
     rfl
    refine pure_ (i := 35) (N := some 193) (v := ?_) (a' := ?_) (tf 36 43) rfl rfl (any_of HT_.out (by kernel_rfl)) (fun _ _ _ h => h) (Or.inl ⟨by rfl, ?_⟩) ?_ ?_
    rotate_left
    ·intro w'
     go_simp
     with_reducible rfl
    rotate_left
    ·simp only [Act.put, List.setIfInBounds_toArray, List.set_cons_zero, List.set_cons_succ, i64_w, i32_w]
     rfl
    refine pure_ (i := 36) (N := some 194) (v := ?_) (a' := ?_) (tf 37 42) rfl rfl (any_of HT_.out (by kernel_rfl)) (fun _ _ _ h => h) (Or.inl ⟨by rfl, ?_⟩) ?_ ?_
    rotate_left
    ·intro w'
     go_simp
     with_reducible rfl
    rotate_left
    ·simp only [Act.put, List.setIfInBounds_toArray, List.set_cons_zero, List.set_cons_succ, i64_w, i32_w]
     rfl
    refine pure_ (i := 37) (N := some 195) (v := ?_) (a' := ?_) (tf 38 41) rfl rfl (any_of HT_.out (by kernel_rfl)) (fun _ _ _ h => h) (Or.inl ⟨by rfl, ?_⟩) ?_ ?_
    rotate_left
    ·intro w'
     go_simp
     with_reducible rfl
    rotate_left
    ·simp only [Act.put, List.setIfInBounds_toArray, List.set_cons_zero, List.set_cons_succ, i64_w, i32_w]
     rfl
    refine pure_ (i := 38) (N := some 196) (v := ?_) (a' := ?_) (tf 39 40) rfl rfl (any_of HT_.out (by kernel_rfl)) (fun _ _ _ h => h) (Or.inl ⟨by rfl, ?_⟩) ?_ ?_
    rotate_left
    ·intro w'
     go_simp
     with_reducible rfl
    rotate_left
    ·simp only [Act.put, List.setIfInBounds_toArray, List.set_cons_zero, List.set_cons_succ, i64_w, i32_w]
     rfl
    refine pure_ (i := 39) (N := some 197) (v := ?_) (a' := ?_) (tf 40 39) rfl rfl (any_of HT_.out (by kernel_rfl)) (fun _ _ _ h => h) (Or.inl ⟨by rfl, ?_⟩) ?_ ?_
    rotate_left
    ·intro w'
     go_simp
     with_reducible rfl
    rotate_left
    ·simp only [Act.put, List.setIfInBounds_toArray, List.set_cons_zero, List.set_cons_succ, i64_w, i32_w]
     rfl
    refine pure_ (i := 40) (N := some 198) (v := ?_) (a' := ?_) (tf 41 38) rfl rfl (any_of HT_.out (by kernel_rfl)) (fun _ _ _ h => h) (Or.inl ⟨by rfl, ?_⟩) ?_ ?_
    rotate_left
    ·intro w'
     go_simp
     with_reducible rfl
    rotate_left
    ·simp only [Act.put, List.setIfInBounds_toArray, List.set_cons_zero, List.set_cons_succ, i64_w, i32_w]
     rfl
    refine pure_ (i := 41) (N := some 199) (v := ?_) (a' := ?_) (tf 42 37) rfl rfl (any_of HT_.out (by kernel_rfl)) (fun _ _ _ h => h) (Or.inl ⟨by rfl, ?_⟩) ?_ ?_
    rotate_left
    ·intro w'
     go_simp
     with_reducible rfl
    rotate_left
    ·simp only [Act.put, List.setIfInBounds_toArray, List.set_cons_zero, List.set_cons_succ, i64_w, i32_w]
     rfl
    refine pure_ (i := 42) (N := some 200) (v := ?_) (a' := ?_) (tf 43 36) rfl rfl (any_of HT_.out (by kernel_rfl)) (fun _ _ _ h => h) (Or.inl ⟨by rfl, ?_⟩) ?_ ?_
    rotate_left
    ·intro w'
     go_simp
     with_reducible rfl
    rotate_left
    ·simp only [Act.put, List.setIfInBounds_toArray, List.set_cons_zero, List.set_cons_succ, i64_w, i32_w]
     rfl
    refine pure_ (i := 43) (N := some 201) (v := ?_) (a' := ?_) (tf 44 35) rfl rfl (any_of HT_.out (by kernel_rfl)) (fun _ _ _ h => h) (Or.inl ⟨by rfl, ?_⟩) ?_ ?_
    rotate_left
    ·intro w'
     go_simp
     with_reducible rfl
    rotate_left
    ·simp only [Act.put, List.setIfInBounds_toArray, List.set_cons_zero, List.set_cons_succ, i64_w, i32_w]
     rfl
    refine pure_ (i := 44) (N := some 202) (v := ?_) (a' := ?_) (tf 45 34) rfl rfl (any_of HT_.out (by kernel_rfl)) (fun _ _ _ h => h) (Or.inl ⟨by rfl, ?_⟩) ?_ ?_
    rotate_left
    ·intro w'
     go_simp
     with_reducible rfl
    rotate_left
    ·simp only [Act.put, List.setIfInBounds_toArray, List.set_cons_zero, List.set_cons_succ, i64_w, i32_w]
     rfl
    refine take_ (i := 45) (N := some 203) (v := ?_) (a' := ?_) #[true, true, true, true, true, true, true, true, true, true, true, true, true, true, true, true, true, true, true, true, true, true, true, true, true, true, true, true, true, true, true, true, true, true, true, true, true, true, true, true, true, true, true, true, true, true, false, false, false, false, false, false, false, false, false, false, false, false, false, false, false, false, false, false, false, false, false, false, false, false, false, false, false, false, false, false, false, false, false] rfl rfl (take_ofW HT_.out HW_.out (by kernel_rfl)) (fun _ _ _ h => h) (Or.inl ⟨by rfl, ?_⟩) hHeld ?_ ?_
    rotate_left
    ·rintro w' ⟨s0, s1, s2, s3, s4, s5, s6, s7, s8, s9, s10, s11⟩
     go_simp
     with_reducible rfl
    rotate_left
    ·simp only [Act.put, List.setIfInBounds_toArray, List.set_cons_zero, List.set_cons_succ, i64_w, i32_w]
     rfl
    refine one_ (i := 46) (N := some 204) #[true, true, true, true, true, true, true, true, true, true, true, true, true, true, true, true, true, true, true, true, true, true, true, true, true, true, true, true, true, true, true, true, true, true, true, true, true, true, true, true, true, true, true, true, true, true, true, false, false, false, false, false, false, false, false, false, false, false, false, false, false, false, false, false, false, false, false, false, false, false, false, false, false, false, false, false, false, false, false] rfl rfl (one_of HT_.out (by kernel_rfl)) (by decide) (fun K hK => ?_)
    refine goes_ Tryd.func38 (by kernel_rfl) rfl #[.string (⟨#[121]⟩ : ByteArray), .int .i64 73] (by rfl) rfl rfl ml ?_
    with_reducible refine (strings_Repeat.calls (⟨#[121]⟩ : ByteArray) 73 t284 _ A70.out).mono ?_
    rintro e w176 ⟨rfl, hb⟩
    refine ⟨_, rfl, ?_⟩
    have n0_ := Aside0.mk (Kd.R_below (kr HO_256000.out) hb)
    have n1_ := Aside0.mk (Kd.R_below (kr HO308.out) hb)
    have n2_ := Aside0.mk (Kd.R_below (kr HO315.out) hb)
    have n3_ := Aside0.mk (Kd.R_below (kr HO322.out) hb)
    have n4_ := Aside0.mk (kb BK255.out hb)
    have n5_ := Aside0.mk (kb BK272.out hb)
    have n6_ := Aside0.mk (kb BK277.out hb)
    have n7_ := Aside0.mk (kb BK283.out hb)
    have n8_ := Aside0.mk (kb BK289.out hb)
    have n9_ := Aside0.mk (kb BK294.out hb)
    have n10_ := Aside0.mk (kb BK299.out hb)
    have n11_ := Aside0.mk (kb BK304.out hb)
    have n12_ := Aside0.mk (kb BK312.out hb)
    have n13_ := Aside0.mk (kb BK319.out hb)
    have n14_ := Aside0.mk (kb BK326.out hb)
    have n15_ := Aside0.mk (below_step bl hb)
    clear HO_256000
    clear HO308
    clear HO315
    clear HO322
    clear BK255
    clear BK272
    clear BK277
    clear BK283
    clear BK289
    clear BK294
    clear BK299
    clear BK304
    clear BK312
    clear BK319
    clear BK326
    clear HB
    have HO_256000 := n0_
    have HO308 := n1_
    have HO315 := n2_
    have HO322 := n3_
    have BK255 := n4_
    have BK272 := n5_
    have BK277 := n6_
    have BK283 := n7_
    have BK289 := n8_
    have BK294 := n9_
    have BK299 := n10_
    have BK304 := n11_
    have BK312 := n12_
    have BK319 := n13_
    have BK326 := n14_
    have HB := n15_
    clear n0_ n1_ n2_ n3_ n4_ n5_ n6_ n7_ n8_ n9_ n10_ n11_ n12_ n13_ n14_ n15_
    (try clear hb)
    (try clear hb2)
    (try clear hk)
    (try clear hi)
    refine hK.out _ _ ⟨(blk_cell BK272.out 0).trans rfl, (blk_cell BK272.out 1).trans rfl, (blk_cell BK272.out 2).trans rfl, (blk_cell BK277.out 0).trans rfl, (blk_cell BK277.out 1).trans rfl, (blk_cell BK277.out 2).trans rfl, (blk_cell BK283.out 0).trans rfl, (blk_cell BK283.out 1).trans rfl, (blk_cell BK283.out 2).trans rfl, (blk_cell BK289.out 0).trans rfl, (blk_cell BK289.out 1).trans rfl, (blk_cell BK289.out 2).trans rfl⟩ (fun hHeld => ?_)
    clear hK K
    refine norm_ (a' := ?_) ?_ ?_
    rotate_left
    ·show Act.put _ (some 204) _ = _
     simp only [Act.put, List.setIfInBounds_toArray, List.set_cons_zero, List.set_cons_succ, i64_w, i32_w]
     rfl
    refine pure_ (i := 47) (N := some 205) (v := ?_) (a' := ?_) (tf 48 31) rfl rfl (any_of HT_.out (by kernel_rfl)) (fun _ _ _ h => h) (Or.inl ⟨by rfl, ?_⟩) ?_ ?_
    rotate_left
    ·intro w'
     go_simp
     with_reducible rfl
    rotate_left
    ·simp only [Act.put, List.setIfInBounds_toArray, List.set_cons_zero, List.set_cons_succ, i64_w, i32_w]
     rfl
    refine pure_ (i := 48) (N := some 206) (v := ?_) (a' := ?_) (tf 49 30) rfl rfl (any_of HT_.out (by kernel_rfl)) (fun _ _ _ h => h) (Or.inl ⟨by rfl, ?_⟩) ?_ ?_
    rotate_left
    ·intro w'
     go_simp
     with_reducible rfl
    rotate_left
    ·simp only [Act.put, List.setIfInBounds_toArray, List.set_cons_zero, List.set_cons_succ, i64_w, i32_w]
     rfl
    refine pure_ (i := 49) (N := some 207) (v := ?_) (a' := ?_) (tf 50 29) rfl rfl (any_of HT_.out (by kernel_rfl)) (fun _ _ _ h => h) (Or.inl ⟨by rfl, ?_⟩) ?_ ?_
    rotate_left
    ·intro w'
     go_simp
     with_reducible rfl
    rotate_left
    ·simp only [Act.put, List.setIfInBounds_toArray, List.set_cons_zero, List.set_cons_succ, i64_w, i32_w]
     rfl
    refine pure_ (i := 50) (N := some 208) (v := ?_) (a' := ?_) (tf 51 28) rfl rfl (any_of HT_.out (by kernel_rfl)) (fun _ _ _ h => h) (Or.inl ⟨by rfl, ?_⟩) ?_ ?_
    rotate_left
    ·intro w'
     go_simp
     with_reducible rfl
    rotate_left
    ·simp only [Act.put, List.setIfInBounds_toArray, List.set_cons_zero, List.set_cons_succ, i64_w, i32_w]
     rfl
    refine pure_ (i := 51) (N := some 209) (v := ?_) (a' := ?_) (tf 52 27) rfl rfl (any_of HT_.out (by kernel_rfl)) (fun _ _ _ h => h) (Or.inl ⟨by rfl, ?_⟩) ?_ ?_
    rotate_left
    ·intro w'
     go_simp
     with_reducible rfl
    rotate_left
    ·simp only [Act.put, List.setIfInBounds_toArray, List.set_cons_zero, List.set_cons_succ, i64_w, i32_w]
     rfl
    refine pure_ (i := 52) (N := some 210) (v := ?_) (a' := ?_) (tf 53 26) rfl rfl (any_of HT_.out (by kernel_rfl)) (fun _ _ _ h => h) (Or.inl ⟨by rfl, ?_⟩) ?_ ?_
    rotate_left
    ·intro w'
     go_simp
     with_reducible rfl
    rotate_left
    ·simp only [Act.put, List.setIfInBounds_toArray, List.set_cons_zero, List.set_cons_succ, i64_w, i32_w]
     rfl
    refine pure_ (i := 53) (N := some 211) (v := ?_) (a' := ?_) (tf 54 25) rfl rfl (any_of HT_.out (by kernel_rfl)) (fun _ _ _ h => h) (Or.inl ⟨by rfl, ?_⟩) ?_ ?_
    rotate_left
    ·intro w'
     go_simp
     with_reducible rfl
    rotate_left
    ·simp only [Act.put, List.setIfInBounds_toArray, List.set_cons_zero, List.set_cons_succ, i64_w, i32_w]
     rfl
    refine pure_ (i := 54) (N := some 212) (v := ?_) (a' := ?_) (tf 55 24) rfl rfl (any_of HT_.out (by kernel_rfl)) (fun _ _ _ h => h) (Or.inl ⟨by rfl, ?_⟩) ?_ ?_
    rotate_left
    ·intro w'
     go_simp
     with_reducible rfl
    rotate_left
    ·simp only [Act.put, List.setIfInBounds_toArray, List.set_cons_zero, List.set_cons_succ, i64_w, i32_w]
     rfl
    refine pure_ (i := 55) (N := some 213) (v := ?_) (a' := ?_) (tf 56 23) rfl rfl (any_of HT_.out (by kernel_rfl)) (fun _ _ _ h => h) (Or.inl ⟨by rfl, ?_⟩) ?_ ?_
    rotate_left
    ·intro w'
     go_simp
     with_reducible rfl
    rotate_left
    ·simp only [Act.put, List.setIfInBounds_toArray, List.set_cons_zero, List.set_cons_succ, i64_w, i32_w]
     rfl
    refine pure_ (i := 56) (N := some 214) (v := ?_) (a' := ?_) (tf 57 22) rfl rfl (any_of HT_.out (by kernel_rfl)) (fun _ _ _ h => h) (Or.inl ⟨by rfl, ?_⟩) ?_ ?_
    rotate_left
    ·intro w'
     go_simp
     with_reducible rfl
    rotate_left
    ·simp only [Act.put, List.setIfInBounds_toArray, List.set_cons_zero, List.set_cons_succ, i64_w, i32_w]
     rfl
    refine pure_ (i := 57) (N := some 215) (v := ?_) (a' := ?_) (tf 58 21) rfl rfl (any_of HT_.out (by kernel_rfl)) (fun _ _ _ h => h) (Or.inl ⟨by rfl, ?_⟩) ?_ ?_
    rotate_left
    ·intro w'
     go_simp
     with_reducible rfl
    rotate_left
    ·simp only [Act.put, List.setIfInBounds_toArray, List.set_cons_zero, List.set_cons_succ, i64_w, i32_w]
     rfl
    refine pure_ (i := 58) (N := some 216) (v := ?_) (a' := ?_) (tf 59 20) rfl rfl (any_of HT_.out (by kernel_rfl)) (fun _ _ _ h => h) (Or.inl ⟨by rfl, ?_⟩) ?_ ?_
    rotate_left
    ·intro w'
     go_simp
     with_reducible rfl
    rotate_left
    ·simp only [Act.put, List.setIfInBounds_toArray, List.set_cons_zero, List.set_cons_succ, i64_w, i32_w]
     rfl
    refine pure_ (i := 59) (N := some 217) (v := ?_) (a' := ?_) (tf 60 19) rfl rfl (any_of HT_.out (by kernel_rfl)) (fun _ _ _ h => h) (Or.inl ⟨by rfl, ?_⟩) ?_ ?_
    rotate_left
    ·intro w'
     go_simp
     with_reducible rfl
    rotate_left
    ·simp only [Act.put, List.setIfInBounds_toArray, List.set_cons_zero, List.set_cons_succ, i64_w, i32_w]
     rfl
    refine pure_ (i := 60) (N := some 218) (v := ?_) (a' := ?_) (tf 61 18) rfl rfl (any_of HT_.out (by kernel_rfl)) (fun _ _ _ h => h) (Or.inl ⟨by rfl, ?_⟩) ?_ ?_
    rotate_left
    ·intro w'
     go_simp
     with_reducible rfl
    rotate_left
    ·simp only [Act.put, List.setIfInBounds_toArray, List.set_cons_zero, List.set_cons_succ, i64_w, i32_w]
     rfl
    refine pure_ (i := 61) (N := some 219) (v := ?_) (a' := ?_) (tf 62 17) rfl rfl (any_of HT_.out (by kernel_rfl)) (fun _ _ _ h => h) (Or.inl ⟨by rfl, ?_⟩) ?_ ?_
    rotate_left
    ·intro w'
     go_simp
     with_reducible rfl
    rotate_left
    ·simp only [Act.put, List.setIfInBounds_toArray, List.set_cons_zero, List.set_cons_succ, i64_w, i32_w]
     rfl
    refine pure_ (i := 62) (N := some 220) (v := ?_) (a' := ?_) (tf 63 16) rfl rfl (any_of HT_.out (by kernel_rfl)) (fun _ _ _ h => h) (Or.inl ⟨by rfl, ?_⟩) ?_ ?_
    rotate_left
    ·intro w'
     go_simp
     with_reducible rfl
    rotate_left
    ·simp only [Act.put, List.setIfInBounds_toArray, List.set_cons_zero, List.set_cons_succ, i64_w, i32_w]
     rfl
    refine pure_ (i := 63) (N := some 221) (v := ?_) (a' := ?_) (tf 64 15) rfl rfl (any_of HT_.out (by kernel_rfl)) (fun _ _ _ h => h) (Or.inl ⟨by rfl, ?_⟩) ?_ ?_
    rotate_left
    ·intro w'
     go_simp
     with_reducible rfl
    rotate_left
    ·simp only [Act.put, List.setIfInBounds_toArray, List.set_cons_zero, List.set_cons_succ, i64_w, i32_w]
     rfl
    refine pure_ (i := 64) (N := some 222) (v := ?_) (a' := ?_) (tf 65 14) rfl rfl (any_of HT_.out (by kernel_rfl)) (fun _ _ _ h => h) (Or.inl ⟨by rfl, ?_⟩) ?_ ?_
    rotate_left
    ·intro w'
     go_simp
     with_reducible rfl
    rotate_left
    ·simp only [Act.put, List.setIfInBounds_toArray, List.set_cons_zero, List.set_cons_succ, i64_w, i32_w]
     rfl
    refine pure_ (i := 65) (N := some 223) (v := ?_) (a' := ?_) (tf 66 13) rfl rfl (any_of HT_.out (by kernel_rfl)) (fun _ _ _ h => h) (Or.inl ⟨by rfl, ?_⟩) ?_ ?_
    rotate_left
    ·intro w'
     go_simp
     with_reducible rfl
    rotate_left
    ·simp only [Act.put, List.setIfInBounds_toArray, List.set_cons_zero, List.set_cons_succ, i64_w, i32_w]
     rfl
    refine pure_ (i := 66) (N := some 224) (v := ?_) (a' := ?_) (tf 67 12) rfl rfl (any_of HT_.out (by kernel_rfl)) (fun _ _ _ h => h) (Or.inl ⟨by rfl, ?_⟩) ?_ ?_
    rotate_left
    ·intro w'
     go_simp
     with_reducible rfl
    rotate_left
    ·simp only [Act.put, List.setIfInBounds_toArray, List.set_cons_zero, List.set_cons_succ, i64_w, i32_w]
     rfl
    refine pure_ (i := 67) (N := some 225) (v := ?_) (a' := ?_) (tf 68 11) rfl rfl (any_of HT_.out (by kernel_rfl)) (fun _ _ _ h => h) (Or.inl ⟨by rfl, ?_⟩) ?_ ?_
    rotate_left
    ·intro w'
     go_simp
     with_reducible rfl
    rotate_left
    ·simp only [Act.put, List.setIfInBounds_toArray, List.set_cons_zero, List.set_cons_succ, i64_w, i32_w]
     rfl
    refine pure_ (i := 68) (N := some 226) (v := ?_) (a' := ?_) (tf 69 10) rfl rfl (any_of HT_.out (by kernel_rfl)) (fun _ _ _ h => h) (Or.inl ⟨by rfl, ?_⟩) ?_ ?_
    rotate_left
    ·intro w'
     go_simp
     with_reducible rfl
    rotate_left
    ·simp only [Act.put, List.setIfInBounds_toArray, List.set_cons_zero, List.set_cons_succ, i64_w, i32_w]
     rfl
    refine pure_ (i := 69) (N := some 227) (v := ?_) (a' := ?_) (tf 70 9) rfl rfl (any_of HT_.out (by kernel_rfl)) (fun _ _ _ h => h) (Or.inl ⟨by rfl, ?_⟩) ?_ ?_
    rotate_left
    ·intro w'
     go_simp
     with_reducible rfl
    rotate_left
    ·simp only [Act.put, List.setIfInBounds_toArray, List.set_cons_zero, List.set_cons_succ, i64_w, i32_w]
     rfl
    refine pure_ (i := 70) (N := some 228) (v := ?_) (a' := ?_) (tf 71 8) rfl rfl (any_of HT_.out (by kernel_rfl)) (fun _ _ _ h => h) (Or.inl ⟨by rfl, ?_⟩) ?_ ?_
    rotate_left
    ·intro w'
     go_simp
     with_reducible rfl
    rotate_left
    ·simp only [Act.put, List.setIfInBounds_toArray, List.set_cons_zero, List.set_cons_succ, i64_w, i32_w]
     rfl
    refine pure_ (i := 71) (N := some 229) (v := ?_) (a' := ?_) (tf 72 7) rfl rfl (any_of HT_.out (by kernel_rfl)) (fun _ _ _ h => h) (Or.inl ⟨by rfl, ?_⟩) ?_ ?_
    rotate_left
    ·intro w'
     go_simp
     with_reducible rfl
    rotate_left
    ·simp only [Act.put, List.setIfInBounds_toArray, List.set_cons_zero, List.set_cons_succ, i64_w, i32_w]
     rfl
    refine pure_ (i := 72) (N := some 230) (v := ?_) (a' := ?_) (tf 73 6) rfl rfl (any_of HT_.out (by kernel_rfl)) (fun _ _ _ h => h) (Or.inl ⟨by rfl, ?_⟩) ?_ ?_
    rotate_left
    ·intro w'
     go_simp
     with_reducible rfl
    rotate_left
    ·simp only [Act.put, List.setIfInBounds_toArray, List.set_cons_zero, List.set_cons_succ, i64_w, i32_w]
     rfl
    refine pure_ (i := 73) (N := some 231) (v := ?_) (a' := ?_) (tf 74 5) rfl rfl (any_of HT_.out (by kernel_rfl)) (fun _ _ _ h => h) (Or.inl ⟨by rfl, ?_⟩) ?_ ?_
    rotate_left
    ·intro w'
     go_simp
     with_reducible rfl
    rotate_left
    ·simp only [Act.put, List.setIfInBounds_toArray, List.set_cons_zero, List.set_cons_succ, i64_w, i32_w]
     rfl
    refine pure_ (i := 74) (N := some 232) (v := ?_) (a' := ?_) (tf 75 4) rfl rfl (any_of HT_.out (by kernel_rfl)) (fun _ _ _ h => h) (Or.inl ⟨by rfl, ?_⟩) ?_ ?_
    rotate_left
    ·intro w'
     go_simp
     with_reducible rfl
    rotate_left
    ·simp only [Act.put, List.setIfInBounds_toArray, List.set_cons_zero, List.set_cons_succ, i64_w, i32_w]
     rfl
    refine pure_ (i := 75) (N := some 233) (v := ?_) (a' := ?_) (tf 76 3) rfl rfl (any_of HT_.out (by kernel_rfl)) (fun _ _ _ h => h) (Or.inl ⟨by rfl, ?_⟩) ?_ ?_
    rotate_left
    ·intro w'
     go_simp
     with_reducible rfl
    rotate_left
    ·simp only [Act.put, List.setIfInBounds_toArray, List.set_cons_zero, List.set_cons_succ, i64_w, i32_w]
     rfl
    refine one_ (i := 76) (N := some 234) #[true, true, true, true, true, true, true, true, true, true, true, true, true, true, true, true, true, true, true, true, true, true, true, true, true, true, true, true, true, true, true, true, true, true, true, true, true, true, true, true, true, true, true, true, true, true, true, true, true, true, true, true, true, true, true, true, true, true, true, true, true, true, true, true, true, true, true, true, true, true, true, true, true, true, true, true, true, false, false] rfl rfl (one_of HT_.out (by kernel_rfl)) (by decide) (fun K hK => ?_)
    refine goes_ Tryd.func13 (by kernel_rfl) rfl #[] (by rfl) rfl rfl ml ?_
    with_reducible refine (postriderlaw07_wakes.calls kj2  t329 _ ?side1 A80.out).mono ?_
    (case side1 => exact Glob.below HG.out bl)
    rintro e w177 ⟨rfl, hb⟩
    refine ⟨_, rfl, ?_⟩
    have n0_ := Aside0.mk (Kd.R_below (kr HO_256000.out) hb)
    have n1_ := Aside0.mk (Kd.R_below (kr HO308.out) hb)
    have n2_ := Aside0.mk (Kd.R_below (kr HO315.out) hb)
    have n3_ := Aside0.mk (Kd.R_below (kr HO322.out) hb)
    have n4_ := Aside0.mk (kb BK255.out hb)
    have n5_ := Aside0.mk (kb BK272.out hb)
    have n6_ := Aside0.mk (kb BK277.out hb)
    have n7_ := Aside0.mk (kb BK283.out hb)
    have n8_ := Aside0.mk (kb BK289.out hb)
    have n9_ := Aside0.mk (kb BK294.out hb)
    have n10_ := Aside0.mk (kb BK299.out hb)
    have n11_ := Aside0.mk (kb BK304.out hb)
    have n12_ := Aside0.mk (kb BK312.out hb)
    have n13_ := Aside0.mk (kb BK319.out hb)
    have n14_ := Aside0.mk (kb BK326.out hb)
    have n15_ := Aside0.mk (below_step bl hb)
    clear HO_256000
    clear HO308
    clear HO315
    clear HO322
    clear BK255
    clear BK272
    clear BK277
    clear BK283
    clear BK289
    clear BK294
    clear BK299
    clear BK304
    clear BK312
    clear BK319
    clear BK326
    clear HB
    have HO_256000 := n0_
    have HO308 := n1_
    have HO315 := n2_
    have HO322 := n3_
    have BK255 := n4_
    have BK272 := n5_
    have BK277 := n6_
    have BK283 := n7_
    have BK289 := n8_
    have BK294 := n9_
    have BK299 := n10_
    have BK304 := n11_
    have BK312 := n12_
    have BK319 := n13_
    have BK326 := n14_
    have HB := n15_
    clear n0_ n1_ n2_ n3_ n4_ n5_ n6_ n7_ n8_ n9_ n10_ n11_ n12_ n13_ n14_ n15_
    (try clear hb)
    (try clear hb2)
    (try clear hk)
    (try clear hi)
    refine hK.out _ _ ⟨(blk_cell BK272.out 0).trans rfl, (blk_cell BK272.out 1).trans rfl, (blk_cell BK272.out 2).trans rfl, (blk_cell BK277.out 0).trans rfl, (blk_cell BK277.out 1).trans rfl, (blk_cell BK277.out 2).trans rfl, (blk_cell BK283.out 0).trans rfl, (blk_cell BK283.out 1).trans rfl, (blk_cell BK283.out 2).trans rfl, (blk_cell BK289.out 0).trans rfl, (blk_cell BK289.out 1).trans rfl, (blk_cell BK289.out 2).trans rfl⟩ (fun hHeld => ?_)
    clear hK K
    refine norm_ (a' := ?_) ?_ ?_
    rotate_left
    ·show Act.put _ (some 234) _ = _
     simp only [Act.put, List.setIfInBounds_toArray, List.set_cons_zero, List.set_cons_succ, i64_w, i32_w]
     rfl
    refine pure_ (i := 77) (N := some 235) (v := ?_) (a' := ?_) (tf 78 1) rfl rfl (any_of HT_.out (by kernel_rfl)) (fun _ _ _ h => h) (Or.inl ⟨by rfl, ?_⟩) ?_ ?_
    rotate_left
    ·intro w'
     go_simp
     with_reducible rfl
    rotate_left
    ·simp only [Act.put, List.setIfInBounds_toArray, List.set_cons_zero, List.set_cons_succ, i64_w, i32_w]
     rfl
    refine pure_ (i := 78) (N := some 0) (v := ?_) (a' := ?_) (tf 79 0) rfl rfl (any_of HT_.out (by kernel_rfl)) (fun _ _ _ h => h) (Or.inl ⟨by rfl, ?_⟩) ?_ ?_
    rotate_left
    ·intro w'
     go_simp
     with_reducible rfl
    rotate_left
    ·simp only [Act.put, List.setIfInBounds_toArray, List.set_cons_zero, List.set_cons_succ, i64_w, i32_w]
     rfl
    refine done_ (done_of HT_.out (by kernel_rfl)) ?_
    try go_wp2
    go_ret
    exact ⟨by first | rfl | (simp [bneNil]; done) | (simp [errW_none, errW_some] <;> rfl) | (simp [*, errW_none, errW_some] <;> rfl), by repeat (first | (with_reducible first | exact HB.out | apply below_alloc | apply pw_below_drewN | apply below_drew1 | refine below_set ?_ GE255.out | refine below_set ?_ GE272.out | refine below_set ?_ GE277.out | refine below_set ?_ GE283.out | refine below_set ?_ GE289.out | refine below_set ?_ GE294.out | refine below_set ?_ GE299.out | refine below_set ?_ GE304.out | refine below_set ?_ GE312.out | refine below_set ?_ GE319.out | refine below_set ?_ GE326.out) | exact HB.out)⟩
   subst c31
   have H1 : (some false) = some r := by rw [if_pos rfl] at H; exact H
   clear H
   have H := H1
   clear H1
   exact absurd ((Option.some.inj H).trans HT_r.out) (by decide)

/-- THE ONE PURE STATEMENT of postriderlaw07_HeadKnown: yours. -/
def postriderlaw07_HeadKnown.Pure : Prop := ∃ k, postriderlaw07_HeadKnown.f k  = some true
theorem postriderlaw07_HeadKnown.walk (P : postriderlaw07_HeadKnown.Pure)  (w : World)  (hG : Glob w) :
  Calls Tryd.prog 8 #[] w fun e w' => e = .returned (.bool true) ∧ Below w.heap.size w w' := by
 obtain ⟨k, h⟩ := P  
 refine (postriderlaw07_HeadKnown.calls k  true w hG rfl h).mono ?_
 rintro e w' ⟨rfl, hd⟩
 exact ⟨rfl, hd⟩

end Go.Proofs.YtdciiahlakgikaaDoor.Q
