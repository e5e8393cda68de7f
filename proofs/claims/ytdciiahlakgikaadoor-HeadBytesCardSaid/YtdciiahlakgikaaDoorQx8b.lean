-- Written by this session's own program (wip/tools: a patched run of the printer) out of the translation.
import Derived.Test.YtdciiahlakgikaaDoorQx0
import Derived.Test.YtdciiahlakgikaaDoorQx5
import Derived.Test.YtdciiahlakgikaaDoorQx7
namespace Go.Proofs.YtdciiahlakgikaaDoor.Q
open Go.RowKit Go.Proofs.YtdciiahlakgikaaDoorW.PrintWords Go.Proofs.YtdciiahlakgikaaDoorW.PrintLast Go.Proofs.YtdciiahlakgikaaDoorW.PrintMore
attribute [local go_sem] max2_int min2_int max_two min_two max_three min_three max_four min_four   -- for this text's walks alone
set_option linter.unusedVariables false
set_option linter.unusedSimpArgs false

/-! ### postriderlaw07_HeadBytes: function 7 -/
set_option maxHeartbeats 8000000 in
set_option maxRecDepth 100000 in
theorem postriderlaw07_HeadBytes.calls (k : Nat) (A0 : Option Addr) (c0 : Nat) (l0 : List (S111)) (a1 : ByteArray) (a2_0 : ByteArray) (a2_1 : Int) (a2_2 : Bool) (r : Bool) (w : World) (hr0 : Kd.C k111 w A0 l0.length l0) (hc0 : l0.length ≤ c0) (hG : Glob w) (hT : r = true) (h : postriderlaw07_HeadBytes.f k l0 a1 a2_0 a2_1 a2_2 = some r) :
  Calls Tryd.prog 7 #[.slice A0 l0.length c0, .string a1, .agg #[.string a2_0, .int .u8 a2_1, .bool a2_2]] w fun e w' => e = .returned (.bool r) ∧ Below w.heap.size w w' := by
 have hu70 := Tryd.underlying70
 have hu24 := Tryd.underlying24
 have hu41 := Tryd.underlying41
 have HR0 := Aside0.mk hr0
 have HC0 := Aside0.mk hc0
 clear hr0 hc0
 have HB := Aside0.mk (Below.refl w.heap.size w)
 have HG := Aside0.mk hG
 clear hG
 have HT_r := Aside0.mk hT
 clear hT
 have H : ((postriderlaw07_made.f l0 a1 a2_2).bind fun bt258 => ((head_Parse.f k bt258.1).bind fun bt262 => (if bt262.2.2.2 = 0 then ((head_Message_Text.f bt262.1 bt262.2.1 bt262.2.2.1).bind fun t269 => (if t269.toList = bt258.1.toList then ((head_Message_May.f k bt262.1 bt262.2.1 bt262.2.2.1).bind fun t270 => (if t270 = true then (postriderlaw07_HeadBytes.j0 k bt258.1 bt258.2 ((bt262.1.length : Int) != (bt258.2.length : Int)) a2_0 a2_1 a2_2 bt262.1 bt262.2.1 bt262.2.2.1) else (postriderlaw07_HeadBytes.j0 k bt258.1 bt258.2 true a2_0 a2_1 a2_2 bt262.1 bt262.2.1 bt262.2.2.1))) else (postriderlaw07_HeadBytes.j0 k bt258.1 bt258.2 true a2_0 a2_1 a2_2 bt262.1 bt262.2.1 bt262.2.2.1))) else (postriderlaw07_HeadBytes.j0 k bt258.1 bt258.2 true a2_0 a2_1 a2_2 bt262.1 bt262.2.1 bt262.2.2.1)))) = some r := h
 clear h
 replace H := Option.bind_eq_some_iff.mp H
 obtain ⟨⟨t258, t259⟩, A40, H⟩ := H
 replace H : ((head_Parse.f k t258).bind fun bt262 => (if bt262.2.2.2 = 0 then ((head_Message_Text.f bt262.1 bt262.2.1 bt262.2.2.1).bind fun t269 => (if t269.toList = t258.toList then ((head_Message_May.f k bt262.1 bt262.2.1 bt262.2.2.1).bind fun t270 => (if t270 = true then (postriderlaw07_HeadBytes.j0 k t258 t259 ((bt262.1.length : Int) != (t259.length : Int)) a2_0 a2_1 a2_2 bt262.1 bt262.2.1 bt262.2.2.1) else (postriderlaw07_HeadBytes.j0 k t258 t259 true a2_0 a2_1 a2_2 bt262.1 bt262.2.1 bt262.2.2.1))) else (postriderlaw07_HeadBytes.j0 k t258 t259 true a2_0 a2_1 a2_2 bt262.1 bt262.2.1 bt262.2.2.1))) else (postriderlaw07_HeadBytes.j0 k t258 t259 true a2_0 a2_1 a2_2 bt262.1 bt262.2.1 bt262.2.2.1))) = some r := H
 have A4 := Aside0.mk A40
 clear A40
 replace H := Option.bind_eq_some_iff.mp H
 obtain ⟨⟨t262, t265, t266, t267⟩, A50, H⟩ := H
 replace H : (if t267 = 0 then ((head_Message_Text.f t262 t265 t266).bind fun t269 => (if t269.toList = t258.toList then ((head_Message_May.f k t262 t265 t266).bind fun t270 => (if t270 = true then (postriderlaw07_HeadBytes.j0 k t258 t259 ((t262.length : Int) != (t259.length : Int)) a2_0 a2_1 a2_2 t262 t265 t266) else (postriderlaw07_HeadBytes.j0 k t258 t259 true a2_0 a2_1 a2_2 t262 t265 t266))) else (postriderlaw07_HeadBytes.j0 k t258 t259 true a2_0 a2_1 a2_2 t262 t265 t266))) else (postriderlaw07_HeadBytes.j0 k t258 t259 true a2_0 a2_1 a2_2 t262 t265 t266)) = some r := H
 have A5 := Aside0.mk A50
 clear A50
 have HC6 := Aside0.mk H
 clear H
 go_enter Tryd.func7, Tryd.ntmps7
 go_upto_region 3 with (first | ((with_reducible refine gate_dst (N := 5) rfl ?_); (try (refine gate_guard (by rfl) ?_; dsimp only)); refine box_event ?hg (N := 5) ?hd (cs := #[.string a2_0, .int .u8 a2_1, .bool a2_2]) (t := 70) ?hr ?_; (case hd => rfl); (case hg => rfl); (case hr => first | (go_simp; done) | (go_simp; rfl)); intro gb257 hg w7 hbox hb; have n0_ := Aside0.mk (below_step bl hb); have n1_ := Aside0.mk (hbox); have n2_ := Aside0.mk ((by rw [hg]; exact (below_size bl) : w.heap.size ≤ gb257)); have n3_ := Aside0.mk ((by rw [hg]; exact (below_size bl) : w.heap.size ≤ gb257)); clear HB; have HB := n0_; have BK257 := n1_; have GW257 := n2_; have GE257 := n3_; clear n0_ n1_ n2_ n3_; clear hb hbox hg; have hcz8_0 : w7.cell? ⟨gb257, 0, none⟩ = some (.string a2_0) := (blk_cell BK257.out 0).trans rfl; have hcz8_1 : w7.cell? ⟨gb257, 1, none⟩ = some (.int .u8 a2_1) := (blk_cell BK257.out 1).trans rfl; have hcz8_2 : w7.cell? ⟨gb257, 2, none⟩ = some (.bool a2_2) := (blk_cell BK257.out 2).trans rfl; have hfz8_0 := blk_frozen BK257.out 0; have hfz8_1 := blk_frozen BK257.out 1; have hfz8_2 := blk_frozen BK257.out 2) | ((with_reducible refine gate_callee (f := 35) rfl ?_); refine goesL_ (some 27) rfl rfl Tryd.func35 (by kernel_rfl) rfl #[.slice A0 l0.length c0, .string a1, .bool a2_2] rfl ml ?_; (with_reducible refine (postriderlaw07_made.calls _ _ l0 a1 a2_2 t258 t259 _ ?side1 ?side2 ?side3 A4.out).mono ?_); (case side1 => repeat (first | exact (Kd.C_below HR0.out HB.out) | (with_reducible refine Kd.C_alloc ?_ _) | (with_reducible refine Kd.C_drewN ?_ _) | (with_reducible refine Kd.C_drew ?_))); (case side2 => exact HC0.out); (case side3 => exact Glob.below HG.out bl); rintro e w9 ⟨v260, rfl, ho0, hb⟩; refine ⟨_, rfl, ?_⟩; have n0_ := Aside0.mk (Kd.R_lower ho0 (below_size bl)); have n1_ := Aside0.mk (kb BK257.out hb); have n2_ := Aside0.mk (below_step bl hb); clear BK257; clear HB; have HO261 := n0_; have BK257 := n1_; have HB := n2_; clear n0_ n1_ n2_; (try clear hb); (try clear hb2); (try clear hk); (try clear hi); (try clear ho0)) | ((with_reducible refine gate_callee (f := 9) rfl ?_); refine goesL_ (some 32) rfl rfl Tryd.func9 (by kernel_rfl) rfl #[.string t258] rfl ml ?_; (with_reducible refine (head_Parse.calls k t258 t262 t265 t266 t267 _ ?side1 A5.out).mono ?_); (case side1 => exact Glob.below HG.out bl); rintro e w10 ⟨v263, rfl, ho0, hb⟩; refine ⟨_, rfl, ?_⟩; have n0_ := Aside0.mk (Kd.R_below (kr HO261.out) hb); have n1_ := Aside0.mk (Kd.R_lower ho0 (below_size bl)); have n2_ := Aside0.mk (kb BK257.out hb); have n3_ := Aside0.mk (below_step bl hb); clear HO261; clear BK257; clear HB; have HO261 := n0_; have HO264 := n1_; have BK257 := n2_; have HB := n3_; clear n0_ n1_ n2_ n3_; (try clear hb); (try clear hb2); (try clear hk); (try clear hi); (try clear ho0)) | ((with_reducible refine gate_dst (N := 9) rfl ?_); (try (refine gate_guard (by rfl) ?_; dsimp only)); refine box_event ?hg (N := 9) ?hd (cs := #[.slice none 0 0, .string (⟨#[]⟩ : ByteArray), .bool false]) (t := 24) ?hr ?_; (case hd => rfl); (case hg => rfl); (case hr => first | (go_simp; done) | (go_simp; rfl)); intro gb268 hg w11 hbox hb; have n0_ := Aside0.mk (Kd.R_below (kr HO261.out) hb); have n1_ := Aside0.mk (Kd.R_below (kr HO264.out) hb); have n2_ := Aside0.mk (kb BK257.out hb); have n3_ := Aside0.mk (below_step bl hb); have n4_ := Aside0.mk (hbox); have n5_ := Aside0.mk ((by rw [hg]; exact (below_size bl) : w.heap.size ≤ gb268)); have n6_ := Aside0.mk ((by rw [hg]; exact (below_size bl) : w.heap.size ≤ gb268)); have n7_ := Aside0.mk ((by rw [hg]; exact Nat.ne_of_lt (blk_lt (bk BK257.out)) : gb257 ≠ gb268)); have n8_ := Aside0.mk ((by rw [hg]; exact Nat.ne_of_gt (blk_lt (bk BK257.out)) : gb268 ≠ gb257)); clear HO261; clear HO264; clear BK257; clear HB; have HO261 := n0_; have HO264 := n1_; have BK257 := n2_; have HB := n3_; have BK268 := n4_; have GW268 := n5_; have GE268 := n6_; have NB257_268 := n7_; have NB268_257 := n8_; clear n0_ n1_ n2_ n3_ n4_ n5_ n6_ n7_ n8_; clear hb hbox hg; obtain ⟨Ao12, co12, eo12⟩ := Kd.R_slice HO264.out; subst eo12; have hnb13 := NB268_257.out; have hnc13 := NB257_268.out; have hcz14_0 : w11.cell? ⟨gb268, 0, none⟩ = some (.slice none 0 0) := (blk_cell BK268.out 0).trans rfl; have hcz14_1 : w11.cell? ⟨gb268, 1, none⟩ = some (.string (⟨#[]⟩ : ByteArray)) := (blk_cell BK268.out 1).trans rfl; have hcz14_2 : w11.cell? ⟨gb268, 2, none⟩ = some (.bool false) := (blk_cell BK268.out 2).trans rfl; have hfz14_0 := blk_frozen BK268.out 0; have hfz14_1 := blk_frozen BK268.out 1; have hfz14_2 := blk_frozen BK268.out 2))
 (try simp only [Act.put, List.setIfInBounds_toArray, List.set_cons_zero, List.set_cons_succ])
 go_cut [55] (fun v55 wc => ∃ (kq : Nat) (x55_5 : Bool), v55 = .bool x55_5 ∧ Aside0 (postriderlaw07_HeadBytes.j0 kq t258 t259 x55_5 a2_0 a2_1 a2_2 t262 t265 t266 = some r) ∧ Aside0 (kq ≤ k) ∧ Aside0 (Kd.R Kd.string 9 wc w.heap.size (fun _ => True) v260 t259) ∧ Aside0 (Kd.R k41 41 wc w.heap.size (fun _ => True) (.slice Ao12 t262.length co12) t262) ∧ Aside0 (wc.heap[gb257]? = some (.cells #[.string a2_0, .int .u8 a2_1, .bool a2_2] 70 (0, 0))) ∧ Aside0 (wc.heap[gb268]? = some (.cells #[(.slice Ao12 t262.length co12), .string t265, .bool t266] 24 (0, 0))) ∧ Aside0 (Below w.heap.size w wc))
 case first => as_aux_lemma =>
  have H := HC6.out
  clear HC6
  by_cases c15 : t267 = 0
  ·rw [if_pos c15] at H
   have c15b0 : (t267 == 0) = true := beq_iff_eq.mpr c15
   have c15b1 : (t267 != 0) = false := bne_eq_false_iff_eq.mpr c15
   clear c15
   (first | rw [c15b0] | (simp only [i64_w, i32_w]; rw [c15b0]) | skip)
   replace H := Option.bind_eq_some_iff.mp H
   obtain ⟨t269, A160, H⟩ := H
   replace H : (if t269.toList = t258.toList then ((head_Message_May.f k t262 t265 t266).bind fun t270 => (if t270 = true then (postriderlaw07_HeadBytes.j0 k t258 t259 ((t262.length : Int) != (t259.length : Int)) a2_0 a2_1 a2_2 t262 t265 t266) else (postriderlaw07_HeadBytes.j0 k t258 t259 true a2_0 a2_1 a2_2 t262 t265 t266))) else (postriderlaw07_HeadBytes.j0 k t258 t259 true a2_0 a2_1 a2_2 t262 t265 t266)) = some r := H
   have A16 := Aside0.mk A160
   clear A160
   by_cases c17 : t269.toList = t258.toList
   ·rw [if_pos c17] at H
    have c17b0 : (t269.toList == t258.toList) = true := beq_iff_eq.mpr c17
    have c17b1 : (t269.toList != t258.toList) = false := bne_eq_false_iff_eq.mpr c17
    clear c17
    replace H := Option.bind_eq_some_iff.mp H
    obtain ⟨t270, A180, H⟩ := H
    replace H : (if t270 = true then (postriderlaw07_HeadBytes.j0 k t258 t259 ((t262.length : Int) != (t259.length : Int)) a2_0 a2_1 a2_2 t262 t265 t266) else (postriderlaw07_HeadBytes.j0 k t258 t259 true a2_0 a2_1 a2_2 t262 t265 t266)) = some r := H
    have A18 := Aside0.mk A180
    clear A180
    by_cases c19 : t270 = true
    ·subst c19
     have H1 : (postriderlaw07_HeadBytes.j0 k t258 t259 ((t262.length : Int) != (t259.length : Int)) a2_0 a2_1 a2_2 t262 t265 t266) = some r := by rw [if_pos rfl] at H; exact H
     clear H
     have H := H1
     clear H1
     have H' := Aside0.mk H
     clear H
     have hnb20 := NB268_257.out
     have hnc20 := NB257_268.out
     have hcz21_0 : w11.cell? ⟨gb268, 0, none⟩ = some (.slice none 0 0) := (blk_cell BK268.out 0).trans rfl
     have hcz21_1 : w11.cell? ⟨gb268, 1, none⟩ = some (.string (⟨#[]⟩ : ByteArray)) := (blk_cell BK268.out 1).trans rfl
     have hcz21_2 : w11.cell? ⟨gb268, 2, none⟩ = some (.bool false) := (blk_cell BK268.out 2).trans rfl
     have hfz21_0 := blk_frozen BK268.out 0
     have hfz21_1 := blk_frozen BK268.out 1
     have hfz21_2 := blk_frozen BK268.out 2
     go_wp2_with (first | (go_at_call 25; (with_reducible refine (head_Message_Text.calls _ _ t262 t265 t266 t269 _ ?side1 ?side2 A16.out).mono ?_); (case side1 => refine (Kd.R_reads' (e := 41) (base := w.heap.size) (ok := fun k_ => True) (n := t262.length) (c := co12) ?_).2.2; exact (by (with_reducible repeat (first | apply Kd.R_alloc | apply Kd.R_drewN | apply Kd.R_drew)); exact (Kd.R_mono (Kd.R_far (p := ⟨gb268, 2, none⟩) (Kd.R_far (p := ⟨gb268, 1, none⟩) (Kd.R_far (p := ⟨gb268, 0, none⟩) (Kd.R_types HO264.out BK268.out (by decide)) (fun _ hk => hk.2) (.slice Ao12 t262.length co12)) (fun _ hk => hk.2) (.string t265)) (fun _ hk => hk.2) (.bool t266)) (fun _ h_ => h_.1)))); (case side2 => exact (Kd.R_reads' HO264.out).2.1); rintro e w22 ⟨rfl, hb⟩; have n0_ := Aside0.mk (Kd.R_below (by (with_reducible repeat (first | apply Kd.R_alloc | apply Kd.R_drewN | apply Kd.R_drew)); exact (Kd.R_mono (Kd.R_far (p := ⟨gb268, 2, none⟩) (Kd.R_far (p := ⟨gb268, 1, none⟩) (Kd.R_far (p := ⟨gb268, 0, none⟩) (Kd.R_types HO261.out BK268.out (by decide)) (fun _ hk => hk.2) (.slice Ao12 t262.length co12)) (fun _ hk => hk.2) (.string t265)) (fun _ hk => hk.2) (.bool t266)) (fun _ h_ => h_.1))) hb); have n1_ := Aside0.mk (Kd.R_below (by (with_reducible repeat (first | apply Kd.R_alloc | apply Kd.R_drewN | apply Kd.R_drew)); exact (Kd.R_mono (Kd.R_far (p := ⟨gb268, 2, none⟩) (Kd.R_far (p := ⟨gb268, 1, none⟩) (Kd.R_far (p := ⟨gb268, 0, none⟩) (Kd.R_types HO264.out BK268.out (by decide)) (fun _ hk => hk.2) (.slice Ao12 t262.length co12)) (fun _ hk => hk.2) (.string t265)) (fun _ hk => hk.2) (.bool t266)) (fun _ h_ => h_.1))) hb); have n2_ := Aside0.mk (kb BK257.out hb); have n3_ := Aside0.mk (blk_below (g := gb268) (o := .cells #[.slice Ao12 t262.length co12, .string t265, .bool t266] 24 (0, 0)) (by (with_reducible repeat (first | refine blk_drewN ?_ _ | refine blk_drew ?_ | refine blk_alloc ?_ _)); refine blk_put (cs := #[.slice Ao12 t262.length co12, .string t265, .bool false]) ?_ 2 _ rfl; (with_reducible repeat (first | refine blk_drewN ?_ _ | refine blk_drew ?_ | refine blk_alloc ?_ _)); refine blk_put (cs := #[.slice Ao12 t262.length co12, .string (⟨#[]⟩ : ByteArray), .bool false]) ?_ 1 _ rfl; (with_reducible repeat (first | refine blk_drewN ?_ _ | refine blk_drew ?_ | refine blk_alloc ?_ _)); refine blk_put (cs := #[.slice none 0 0, .string (⟨#[]⟩ : ByteArray), .bool false]) ?_ 0 _ rfl; (with_reducible repeat (first | refine blk_drewN ?_ _ | refine blk_drew ?_ | refine blk_alloc ?_ _)); exact BK268.out) hb); have n4_ := Aside0.mk (below_step bl hb); clear HO261; clear HO264; clear BK257; clear BK268; clear HB; have HO261 := n0_; have HO264 := n1_; have BK257 := n2_; have BK268 := n3_; have HB := n4_; clear n0_ n1_ n2_ n3_ n4_; (try clear hb); (try clear hb2); (try clear hk); (try clear hi); have hcz23_0 : w22.cell? ⟨gb268, 0, none⟩ = some (.slice Ao12 t262.length co12) := (blk_cell BK268.out 0).trans rfl; have hcz23_1 : w22.cell? ⟨gb268, 1, none⟩ = some (.string t265) := (blk_cell BK268.out 1).trans rfl; have hcz23_2 : w22.cell? ⟨gb268, 2, none⟩ = some (.bool t266) := (blk_cell BK268.out 2).trans rfl; have hfz23_0 := blk_frozen BK268.out 0; have hfz23_1 := blk_frozen BK268.out 1; have hfz23_2 := blk_frozen BK268.out 2) | (go_at_call 23; (with_reducible refine (head_Message_May.calls k _ _ t262 t265 t266 true _ ?side1 ?side2 ?side3 A18.out).mono ?_); (case side1 => repeat (first | exact (Kd.R_reads' HO264.out).2.2 | (with_reducible refine Kd.C_alloc ?_ _) | (with_reducible refine Kd.C_drewN ?_ _) | (with_reducible refine Kd.C_drew ?_))); (case side2 => exact (Kd.R_reads' HO264.out).2.1); (case side3 => exact Glob.below HG.out bl); rintro e w24 ⟨rfl, hb⟩; have n0_ := Aside0.mk (Kd.R_below (kr HO261.out) hb); have n1_ := Aside0.mk (Kd.R_below (kr HO264.out) hb); have n2_ := Aside0.mk (kb BK257.out hb); have n3_ := Aside0.mk (kb BK268.out hb); have n4_ := Aside0.mk (below_step bl hb); clear HO261; clear HO264; clear BK257; clear BK268; clear HB; have HO261 := n0_; have HO264 := n1_; have BK257 := n2_; have BK268 := n3_; have HB := n4_; clear n0_ n1_ n2_ n3_ n4_; (try clear hb); (try clear hb2); (try clear hk); (try clear hi); have hcz25_0 : w24.cell? ⟨gb268, 0, none⟩ = some (.slice Ao12 t262.length co12) := (blk_cell BK268.out 0).trans rfl; have hcz25_1 : w24.cell? ⟨gb268, 1, none⟩ = some (.string t265) := (blk_cell BK268.out 1).trans rfl; have hcz25_2 : w24.cell? ⟨gb268, 2, none⟩ = some (.bool t266) := (blk_cell BK268.out 2).trans rfl; have hfz25_0 := blk_frozen BK268.out 0; have hfz25_1 := blk_frozen BK268.out 1; have hfz25_2 := blk_frozen BK268.out 2; obtain ⟨Ao26, co26, eo26⟩ := Kd.R_slice HO261.out; subst eo26))
     go_meet
     case rel => exact ⟨_, (((t262.length : Int) != (t259.length : Int))), (by first | rfl | (simp; done) | (simp [*]; done)), H', ⟨by first | omega | exact Nat.le_refl _⟩, ⟨by (with_reducible repeat (first | apply Kd.R_alloc | apply Kd.R_drewN | apply Kd.R_drew)); exact HO261.out⟩, ⟨by (with_reducible repeat (first | apply Kd.R_alloc | apply Kd.R_drewN | apply Kd.R_drew)); exact HO264.out⟩, ⟨by (with_reducible repeat (first | refine blk_drewN ?_ _ | refine blk_drew ?_ | refine blk_alloc ?_ _)); exact BK257.out⟩, ⟨by (with_reducible repeat (first | refine blk_drewN ?_ _ | refine blk_drew ?_ | refine blk_alloc ?_ _)); exact BK268.out⟩, ⟨by repeat (first | (with_reducible first | exact HB.out | apply below_alloc | apply pw_below_drewN | apply below_drew1 | refine below_set ?_ GE257.out | refine below_set ?_ GE268.out) | exact HB.out)⟩⟩
    ·replace c19 := Bool.eq_false_iff.mpr c19
     subst c19
     have H1 : (postriderlaw07_HeadBytes.j0 k t258 t259 true a2_0 a2_1 a2_2 t262 t265 t266) = some r := by rw [if_neg (show ¬ (false = true) by decide)] at H; exact H
     clear H
     have H := H1
     clear H1
     exact absurd (H.trans (congrArg some HT_r.out)) (by cases k <;> simp [postriderlaw07_HeadBytes.j0])
   ·rw [if_neg c17] at H
    have c17b0 : (t269.toList == t258.toList) = false := beq_eq_false_iff_ne.mpr c17
    have c17b1 : (t269.toList != t258.toList) = true := bne_iff_ne.mpr c17
    exact absurd (H.trans (congrArg some HT_r.out)) (by cases k <;> simp [postriderlaw07_HeadBytes.j0])
  ·rw [if_neg c15] at H
   have c15b0 : (t267 == 0) = false := beq_eq_false_iff_ne.mpr c15
   have c15b1 : (t267 != 0) = true := bne_iff_ne.mpr c15
   (first | rw [c15b0] | (simp only [i64_w, i32_w]; rw [c15b0]) | skip)
   exact absurd (H.trans (congrArg some HT_r.out)) (by cases k <;> simp [postriderlaw07_HeadBytes.j0])
 case rest => as_aux_lemma =>
  clear HC6
  try clear c1
  try clear c2
  try clear p2
  try clear c3
  try clear c7
  try clear c9
  try clear c13
  try clear c15
  try clear c15b0
  try clear c15b1
  try clear c17
  try clear c17b0
  try clear c17b1
  try clear c19
  try clear c20
  try clear hcz14_0
  try clear hcz14_1
  try clear hcz14_2
  try clear hcz21_0
  try clear hcz21_1
  try clear hcz21_2
  try clear hcz23_0
  try clear hcz23_1
  try clear hcz23_2
  try clear hcz25_0
  try clear hcz25_1
  try clear hcz25_2
  try clear hcz8_0
  try clear hcz8_1
  try clear hcz8_2
  try clear hfz14_0
  try clear hfz14_1
  try clear hfz14_2
  try clear hfz21_0
  try clear hfz21_1
  try clear hfz21_2
  try clear hfz23_0
  try clear hfz23_1
  try clear hfz23_2
  try clear hfz25_0
  try clear hfz25_1
  try clear hfz25_2
  try clear hfz8_0
  try clear hfz8_1
  try clear hfz8_2
  obtain ⟨kq, x55_5, rfl, HA, HJ5, HO_8, HO_269000, BK257, BK268, HB⟩ := hcut
  cases kq with
  | zero => exact absurd HA.out (by simp [postriderlaw07_HeadBytes.j0])
  | succ kj5 =>
   have H := HA.out
   clear HA
   simp only [postriderlaw07_HeadBytes.j0] at H
   by_cases c27 : x55_5 = true
   ·subst c27
    have H1 : (some false) = some r := by rw [if_pos rfl] at H; exact H
    clear H
    have H := H1
    clear H1
    exact absurd ((Option.some.inj H).trans HT_r.out) (by decide)
   ·replace c27 := Bool.eq_false_iff.mpr c27
    subst c27
    have H1 : (postriderlaw07_HeadBytes.l0 kj5 t258 t259 t262 (t262.length : Int) 0 a2_0 a2_1 a2_2 t262 t265 t266) = some r := by rw [if_neg (show ¬ (false = true) by decide)] at H; exact H
    clear H
    have H := H1
    clear H1
    have H' := Aside0.mk H
    clear H
    have hnb28 := NB268_257.out
    have hnc28 := NB257_268.out
    have hcz29_0 : wc.cell? ⟨gb268, 0, none⟩ = some (.slice Ao12 t262.length co12) := (blk_cell BK268.out 0).trans rfl
    have hcz29_1 : wc.cell? ⟨gb268, 1, none⟩ = some (.string t265) := (blk_cell BK268.out 1).trans rfl
    have hcz29_2 : wc.cell? ⟨gb268, 2, none⟩ = some (.bool t266) := (blk_cell BK268.out 2).trans rfl
    have hfz29_0 := blk_frozen BK268.out 0
    have hfz29_1 := blk_frozen BK268.out 1
    have hfz29_2 := blk_frozen BK268.out 2
    go_wp2
    go_loopg [59] kj5 (fun kq v59 w' => ∃ (x59_2 : Int), v59 = .int .i64 x59_2 ∧ Aside0 (postriderlaw07_HeadBytes.l0 kq t258 t259 t262 (t262.length : Int) x59_2 a2_0 a2_1 a2_2 t262 t265 t266 = some r) ∧ Aside0 (kq ≤ kj5) ∧ Aside0 (Kd.R Kd.string 9 w' w.heap.size (fun _ => True) v260 t259) ∧ Aside0 (Kd.R k41 41 w' w.heap.size (fun _ => True) (.slice Ao12 t262.length co12) t262) ∧ Aside0 (Kd.R k41 41 w' w.heap.size (fun _ => True) (.slice Ao12 t262.length co12) t262) ∧ Aside0 (w'.heap[gb257]? = some (.cells #[.string a2_0, .int .u8 a2_1, .bool a2_2] 70 (0, 0))) ∧ Aside0 (w'.heap[gb268]? = some (.cells #[(.slice Ao12 t262.length co12), .string t265, .bool t266] 24 (0, 0))) ∧ Aside0 (Below w.heap.size w w'))
    case atStart => exact ⟨(0), (by first | rfl | (simp; done) | (simp [*]; done)), H', ⟨Nat.le_refl _⟩, ⟨by (with_reducible repeat (first | apply Kd.R_alloc | apply Kd.R_drewN | apply Kd.R_drew)); exact HO_8.out⟩, ⟨by (with_reducible repeat (first | apply Kd.R_alloc | apply Kd.R_drewN | apply Kd.R_drew)); exact HO_269000.out⟩, ⟨by (with_reducible repeat (first | apply Kd.R_alloc | apply Kd.R_drewN | apply Kd.R_drew)); exact HO_269000.out⟩, ⟨by (with_reducible repeat (first | refine blk_drewN ?_ _ | refine blk_drew ?_ | refine blk_alloc ?_ _)); exact BK257.out⟩, ⟨by (with_reducible repeat (first | refine blk_drewN ?_ _ | refine blk_drew ?_ | refine blk_alloc ?_ _)); exact BK268.out⟩, ⟨by repeat (first | (with_reducible first | exact HB.out | apply below_alloc | apply pw_below_drewN | apply below_drew1 | refine below_set ?_ GE257.out | refine below_set ?_ GE268.out) | exact HB.out)⟩⟩
    case round => as_aux_lemma =>
     clear H'
     try clear c1
     try clear c2
     try clear p2
     try clear c3
     try clear c7
     try clear c9
     try clear c13
     try clear c15
     try clear c15b0
     try clear c15b1
     try clear c17
     try clear c17b0
     try clear c17b1
     try clear c19
     try clear c20
     try clear c27
     try clear c28
     try clear hcz14_0
     try clear hcz14_1
     try clear hcz14_2
     try clear hcz21_0
     try clear hcz21_1
     try clear hcz21_2
     try clear hcz23_0
     try clear hcz23_1
     try clear hcz23_2
     try clear hcz25_0
     try clear hcz25_1
     try clear hcz25_2
     try clear hcz29_0
     try clear hcz29_1
     try clear hcz29_2
     try clear hcz8_0
     try clear hcz8_1
     try clear hcz8_2
     try clear hfz14_0
     try clear hfz14_1
     try clear hfz14_2
     try clear hfz21_0
     try clear hfz21_1
     try clear hfz21_2
     try clear hfz23_0
     try clear hfz23_1
     try clear hfz23_2
     try clear hfz25_0
     try clear hfz25_1
     try clear hfz25_2
     try clear hfz29_0
     try clear hfz29_1
     try clear hfz29_2
     try clear hfz8_0
     try clear hfz8_1
     try clear hfz8_2
     try clear p2
     obtain ⟨x59_2, rfl, HA, HK2, HO_8, HO_57, HO_269000, BK257, BK268, HB⟩ := hrel
     cases gk with
     | zero => exact absurd HA.out (by simp [postriderlaw07_HeadBytes.l0])
     | succ k2 =>
      have H := HA.out
      clear HA
      simp only [postriderlaw07_HeadBytes.l0] at H
      by_cases c30 : x59_2 < (t262.length : Int)
      ·rw [if_pos c30] at H
       have c30b0 : decide (x59_2 < (t262.length : Int)) = true := decide_eq_true c30
       clear c30
       by_cases c31 : 0 ≤ x59_2
       ·rw [if_pos c31] at H
        have c31b0 : decide (0 ≤ x59_2) = true := decide_eq_true c31
        clear c31
        by_cases c32 : x59_2 < (t262.length : Int)
        ·rw [if_pos c32] at H
         have c32b0 : decide (x59_2 < (t262.length : Int)) = true := decide_eq_true c32
         clear c32
         by_cases c33 : x59_2 < (t259.length : Int)
         ·rw [if_pos c33] at H
          have c33b0 : decide (x59_2 < (t259.length : Int)) = true := decide_eq_true c33
          clear c33
          by_cases c34 : ((rd_T41 t262 x59_2).f0).toList = (rdOf ByteArray.empty t259 x59_2).toList
          ·rw [if_pos c34] at H
           have c34b0 : (((rd_T41 t262 x59_2).f0).toList == (rdOf ByteArray.empty t259 x59_2).toList) = true := beq_iff_eq.mpr c34
           have c34b1 : (((rd_T41 t262 x59_2).f0).toList != (rdOf ByteArray.empty t259 x59_2).toList) = false := bne_eq_false_iff_eq.mpr c34
           clear c34
           replace H := Option.bind_eq_some_iff.mp H
           obtain ⟨t274, A350, H⟩ := H
           replace H : (if t274 = true then (some false) else ((strings_Trim.f ((rd_T41 t262 x59_2).f1) (⟨#[32, 9]⟩ : ByteArray)).bind fun t275 => (if ((rd_T41 t262 x59_2).f1).toList = t275.toList then (postriderlaw07_HeadBytes.l0 k2 t258 t259 t262 (t262.length : Int) (wrap64 (x59_2 + 1)) a2_0 a2_1 a2_2 t262 t265 t266) else (some false)))) = some r := H
           have A35 := Aside0.mk A350
           clear A350
           by_cases c36 : t274 = true
           ·subst c36
            have H1 : (some false) = some r := by rw [if_pos rfl] at H; exact H
            clear H
            have H := H1
            clear H1
            exact absurd ((Option.some.inj H).trans HT_r.out) (by decide)
           ·replace c36 := Bool.eq_false_iff.mpr c36
            subst c36
            have H1 : ((strings_Trim.f ((rd_T41 t262 x59_2).f1) (⟨#[32, 9]⟩ : ByteArray)).bind fun t275 => (if ((rd_T41 t262 x59_2).f1).toList = t275.toList then (postriderlaw07_HeadBytes.l0 k2 t258 t259 t262 (t262.length : Int) (wrap64 (x59_2 + 1)) a2_0 a2_1 a2_2 t262 t265 t266) else (some false))) = some r := by rw [if_neg (show ¬ (false = true) by decide)] at H; exact H
            clear H
            have H := H1
            clear H1
            replace H := Option.bind_eq_some_iff.mp H
            obtain ⟨t275, A370, H⟩ := H
            replace H : (if ((rd_T41 t262 x59_2).f1).toList = t275.toList then (postriderlaw07_HeadBytes.l0 k2 t258 t259 t262 (t262.length : Int) (wrap64 (x59_2 + 1)) a2_0 a2_1 a2_2 t262 t265 t266) else (some false)) = some r := H
            have A37 := Aside0.mk A370
            clear A370
            by_cases c38 : ((rd_T41 t262 x59_2).f1).toList = t275.toList
            ·rw [if_pos c38] at H
             have c38b0 : (((rd_T41 t262 x59_2).f1).toList == t275.toList) = true := beq_iff_eq.mpr c38
             have c38b1 : (((rd_T41 t262 x59_2).f1).toList != t275.toList) = false := bne_eq_false_iff_eq.mpr c38
             clear c38
             have H' := Aside0.mk H
             clear H
             have p271 : 0 ≤ (x59_2 : Int) := od
             have q271 : x59_2 < (t262.length : Int) := od
             obtain ⟨ad271, e271, hx271_0, hx271_1, hx271_2⟩ := at_T41 (Kd.R_reads' HO_57.out).2.2 x59_2 p271 q271
             cases e271
             replace p271 := eq_true p271
             replace q271 := eq_true q271
             try go_wp2_with (first | ((with_reducible refine gate_dst (N := 12) rfl ?_); (try (refine gate_guard (by rfl) ?_; dsimp only)); refine box_event ?hg (N := 12) ?hd (cs := #[.string (⟨#[]⟩ : ByteArray), .string (⟨#[]⟩ : ByteArray), .string (⟨#[]⟩ : ByteArray)]) (t := 41) ?hr ?_; (case hd => rfl); (case hg => rfl); (case hr => first | (go_simp; done) | (go_simp; rfl)); intro gb272 hg w39 hbox hb; have n0_ := Aside0.mk (Kd.R_below (kr HO_8.out) hb); have n1_ := Aside0.mk (Kd.R_below (Kd.R_elderB (kr HO_57.out) gb272 (Nat.le_of_eq hg.symm)) hb); have n2_ := Aside0.mk (Kd.R_below (Kd.R_elderB (kr HO_269000.out) gb272 (Nat.le_of_eq hg.symm)) hb); have n3_ := Aside0.mk (kb BK257.out hb); have n4_ := Aside0.mk (kb BK268.out hb); have n5_ := Aside0.mk (below_step bl hb); have n6_ := Aside0.mk (hbox); have n7_ := Aside0.mk ((by rw [hg]; exact (below_size bl) : w.heap.size ≤ gb272)); have n8_ := Aside0.mk ((by rw [hg]; exact (below_size bl) : w.heap.size ≤ gb272)); have n9_ := Aside0.mk ((by rw [hg]; exact Nat.ne_of_lt (blk_lt (bk BK257.out)) : gb257 ≠ gb272)); have n10_ := Aside0.mk ((by rw [hg]; exact Nat.ne_of_gt (blk_lt (bk BK257.out)) : gb272 ≠ gb257)); have n11_ := Aside0.mk ((by rw [hg]; exact Nat.ne_of_lt (blk_lt (bk BK268.out)) : gb268 ≠ gb272)); have n12_ := Aside0.mk ((by rw [hg]; exact Nat.ne_of_gt (blk_lt (bk BK268.out)) : gb272 ≠ gb268)); clear HO_8; clear HO_57; clear HO_269000; clear BK257; clear BK268; clear HB; have HO_8 := n0_; have HO_57 := n1_; have HO_269000 := n2_; have BK257 := n3_; have BK268 := n4_; have HB := n5_; have BK272 := n6_; have GW272 := n7_; have GE272 := n8_; have NB257_272 := n9_; have NB272_257 := n10_; have NB268_272 := n11_; have NB272_268 := n12_; clear n0_ n1_ n2_ n3_ n4_ n5_ n6_ n7_ n8_ n9_ n10_ n11_ n12_; clear hb hbox hg; have hnb40 := NB272_257.out; have hnc40 := NB257_272.out; have hnb41 := NB272_268.out; have hnc41 := NB268_272.out; have hcz42_0 : w39.cell? ⟨gb272, 0, none⟩ = some (.string (⟨#[]⟩ : ByteArray)) := (blk_cell BK272.out 0).trans rfl; have hcz42_1 : w39.cell? ⟨gb272, 1, none⟩ = some (.string (⟨#[]⟩ : ByteArray)) := (blk_cell BK272.out 1).trans rfl; have hcz42_2 : w39.cell? ⟨gb272, 2, none⟩ = some (.string (⟨#[]⟩ : ByteArray)) := (blk_cell BK272.out 2).trans rfl; have hfz42_0 := blk_frozen BK272.out 0; have hfz42_1 := blk_frozen BK272.out 1; have hfz42_2 := blk_frozen BK272.out 2))
             have n0_ : Aside0 (Kd.R Kd.string 9 (((w39.setCell ⟨gb272, 0, none⟩ (.string ((rd_T41 t262 x59_2).f0))).setCell ⟨gb272, 1, none⟩ (.string ((rd_T41 t262 x59_2).f1))).setCell ⟨gb272, 2, none⟩ (.string ((rd_T41 t262 x59_2).f2))) w.heap.size (fun _ => True) v260 t259) := ⟨by (with_reducible repeat (first | apply Kd.R_alloc | apply Kd.R_drewN | apply Kd.R_drew)); exact Kd.R_mono (Kd.R_far (p := ⟨gb272, 2, none⟩) (Kd.R_far (p := ⟨gb272, 1, none⟩) (Kd.R_far (p := ⟨gb272, 0, none⟩) (Kd.R_types HO_8.out BK272.out (by decide)) (fun _ hk => hk.2) (.string ((rd_T41 t262 x59_2).f0))) (fun _ hk => hk.2) (.string ((rd_T41 t262 x59_2).f1))) (fun _ hk => hk.2) (.string ((rd_T41 t262 x59_2).f2))) (fun _ hk => trivial)⟩
             have n1_ : Aside0 (Kd.R k41 41 (((w39.setCell ⟨gb272, 0, none⟩ (.string ((rd_T41 t262 x59_2).f0))).setCell ⟨gb272, 1, none⟩ (.string ((rd_T41 t262 x59_2).f1))).setCell ⟨gb272, 2, none⟩ (.string ((rd_T41 t262 x59_2).f2))) w.heap.size (fun k_ => k_ ≠ gb272) (.slice (some ad271) t262.length co12) t262) := ⟨by (with_reducible repeat (first | apply Kd.R_alloc | apply Kd.R_drewN | apply Kd.R_drew)); exact Kd.R_mono (Kd.R_far (p := ⟨gb272, 2, none⟩) (Kd.R_far (p := ⟨gb272, 1, none⟩) (Kd.R_far (p := ⟨gb272, 0, none⟩) (Kd.R_mono HO_57.out (fun k_ hk => (⟨hk, hk.2⟩ : _ ∧ k_ ≠ gb272))) (fun _ hk => hk.2) (.string ((rd_T41 t262 x59_2).f0))) (fun _ hk => hk.2) (.string ((rd_T41 t262 x59_2).f1))) (fun _ hk => hk.2) (.string ((rd_T41 t262 x59_2).f2))) (fun _ hk => hk.1.2)⟩
             have n2_ : Aside0 (Kd.R k41 41 (((w39.setCell ⟨gb272, 0, none⟩ (.string ((rd_T41 t262 x59_2).f0))).setCell ⟨gb272, 1, none⟩ (.string ((rd_T41 t262 x59_2).f1))).setCell ⟨gb272, 2, none⟩ (.string ((rd_T41 t262 x59_2).f2))) w.heap.size (fun k_ => k_ ≠ gb272) (.slice (some ad271) t262.length co12) t262) := ⟨by (with_reducible repeat (first | apply Kd.R_alloc | apply Kd.R_drewN | apply Kd.R_drew)); exact Kd.R_mono (Kd.R_far (p := ⟨gb272, 2, none⟩) (Kd.R_far (p := ⟨gb272, 1, none⟩) (Kd.R_far (p := ⟨gb272, 0, none⟩) (Kd.R_mono HO_269000.out (fun k_ hk => (⟨hk, hk.2⟩ : _ ∧ k_ ≠ gb272))) (fun _ hk => hk.2) (.string ((rd_T41 t262 x59_2).f0))) (fun _ hk => hk.2) (.string ((rd_T41 t262 x59_2).f1))) (fun _ hk => hk.2) (.string ((rd_T41 t262 x59_2).f2))) (fun _ hk => hk.1.2)⟩
             have n3_ : Aside0 ((((w39.setCell ⟨gb272, 0, none⟩ (.string ((rd_T41 t262 x59_2).f0))).setCell ⟨gb272, 1, none⟩ (.string ((rd_T41 t262 x59_2).f1))).setCell ⟨gb272, 2, none⟩ (.string ((rd_T41 t262 x59_2).f2))).heap[gb257]? = some (.cells #[.string a2_0, .int .u8 a2_1, .bool a2_2] 70 (0, 0))) := ⟨by (with_reducible repeat (first | refine blk_drewN ?_ _ | refine blk_drew ?_ | refine blk_alloc ?_ _)); refine blk_far ?_ NB257_272.out _; (with_reducible repeat (first | refine blk_drewN ?_ _ | refine blk_drew ?_ | refine blk_alloc ?_ _)); refine blk_far ?_ NB257_272.out _; (with_reducible repeat (first | refine blk_drewN ?_ _ | refine blk_drew ?_ | refine blk_alloc ?_ _)); refine blk_far ?_ NB257_272.out _; (with_reducible repeat (first | refine blk_drewN ?_ _ | refine blk_drew ?_ | refine blk_alloc ?_ _)); exact BK257.out⟩
             have n4_ : Aside0 ((((w39.setCell ⟨gb272, 0, none⟩ (.string ((rd_T41 t262 x59_2).f0))).setCell ⟨gb272, 1, none⟩ (.string ((rd_T41 t262 x59_2).f1))).setCell ⟨gb272, 2, none⟩ (.string ((rd_T41 t262 x59_2).f2))).heap[gb268]? = some (.cells #[.slice (some ad271) t262.length co12, .string t265, .bool t266] 24 (0, 0))) := ⟨by (with_reducible repeat (first | refine blk_drewN ?_ _ | refine blk_drew ?_ | refine blk_alloc ?_ _)); refine blk_far ?_ NB268_272.out _; (with_reducible repeat (first | refine blk_drewN ?_ _ | refine blk_drew ?_ | refine blk_alloc ?_ _)); refine blk_far ?_ NB268_272.out _; (with_reducible repeat (first | refine blk_drewN ?_ _ | refine blk_drew ?_ | refine blk_alloc ?_ _)); refine blk_far ?_ NB268_272.out _; (with_reducible repeat (first | refine blk_drewN ?_ _ | refine blk_drew ?_ | refine blk_alloc ?_ _)); exact BK268.out⟩
             have n5_ : Aside0 ((((w39.setCell ⟨gb272, 0, none⟩ (.string ((rd_T41 t262 x59_2).f0))).setCell ⟨gb272, 1, none⟩ (.string ((rd_T41 t262 x59_2).f1))).setCell ⟨gb272, 2, none⟩ (.string ((rd_T41 t262 x59_2).f2))).heap[gb272]? = some (.cells #[.string ((rd_T41 t262 x59_2).f0), .string ((rd_T41 t262 x59_2).f1), .string ((rd_T41 t262 x59_2).f2)] 41 (0, 0))) := ⟨by (with_reducible repeat (first | refine blk_drewN ?_ _ | refine blk_drew ?_ | refine blk_alloc ?_ _)); refine blk_put (cs := #[.string ((rd_T41 t262 x59_2).f0), .string ((rd_T41 t262 x59_2).f1), .string (⟨#[]⟩ : ByteArray)]) ?_ 2 _ rfl; (with_reducible repeat (first | refine blk_drewN ?_ _ | refine blk_drew ?_ | refine blk_alloc ?_ _)); refine blk_put (cs := #[.string ((rd_T41 t262 x59_2).f0), .string (⟨#[]⟩ : ByteArray), .string (⟨#[]⟩ : ByteArray)]) ?_ 1 _ rfl; (with_reducible repeat (first | refine blk_drewN ?_ _ | refine blk_drew ?_ | refine blk_alloc ?_ _)); refine blk_put (cs := #[.string (⟨#[]⟩ : ByteArray), .string (⟨#[]⟩ : ByteArray), .string (⟨#[]⟩ : ByteArray)]) ?_ 0 _ rfl; (with_reducible repeat (first | refine blk_drewN ?_ _ | refine blk_drew ?_ | refine blk_alloc ?_ _)); exact BK272.out⟩
             have n6_ : Aside0 (Below w.heap.size w (((w39.setCell ⟨gb272, 0, none⟩ (.string ((rd_T41 t262 x59_2).f0))).setCell ⟨gb272, 1, none⟩ (.string ((rd_T41 t262 x59_2).f1))).setCell ⟨gb272, 2, none⟩ (.string ((rd_T41 t262 x59_2).f2)))) := ⟨by repeat (first | (with_reducible first | exact HB.out | apply below_alloc | apply pw_below_drewN | apply below_drew1 | refine below_set ?_ GE257.out | refine below_set ?_ GE268.out | refine below_set ?_ GE272.out) | exact HB.out)⟩
             (try clear HO_8)
             (try clear HO_57)
             (try clear HO_269000)
             (try clear BK257)
             (try clear BK268)
             (try clear BK272)
             (try clear HB)
             generalize (((w39.setCell ⟨gb272, 0, none⟩ (.string ((rd_T41 t262 x59_2).f0))).setCell ⟨gb272, 1, none⟩ (.string ((rd_T41 t262 x59_2).f1))).setCell ⟨gb272, 2, none⟩ (.string ((rd_T41 t262 x59_2).f2))) = w43 at n0_ n1_ n2_ n3_ n4_ n5_ n6_ ⊢
             have HO_8 := n0_
             have HO_57 := n1_
             have HO_269000 := n2_
             have BK257 := n3_
             have BK268 := n4_
             have BK272 := n5_
             have HB := n6_
             clear n0_ n1_ n2_ n3_ n4_ n5_ n6_
             have n0_ := Aside0.mk (Kd.R_drew HO_8.out)
             have n1_ := Aside0.mk (Kd.R_drew HO_57.out)
             have n2_ := Aside0.mk (Kd.R_drew HO_269000.out)
             have n3_ := Aside0.mk (blk_drew BK257.out)
             have n4_ := Aside0.mk (blk_drew BK268.out)
             have n5_ := Aside0.mk (blk_drew BK272.out)
             have n6_ := Aside0.mk (below_drew1 HB.out)
             clear HO_8
             clear HO_57
             clear HO_269000
             clear BK257
             clear BK268
             clear BK272
             clear HB
             have HO_8 := n0_
             have HO_57 := n1_
             have HO_269000 := n2_
             have BK257 := n3_
             have BK268 := n4_
             have BK272 := n5_
             have HB := n6_
             clear n0_ n1_ n2_ n3_ n4_ n5_ n6_
             obtain ⟨Ao45, co45, eo45⟩ := Kd.R_slice HO_8.out
             (first | subst eo45 | (injection eo45 with f1_ f2_ f3_; have f4_ := f1_.symm; have f5_ := f3_.symm; clear f1_ f2_ f3_; subst f4_; subst f5_))
             have p273 : 0 ≤ (x59_2 : Int) := od
             have q273 : x59_2 < (t259.length : Int) := od
             obtain ⟨ad273, e273, hx273_0⟩ := Kd.at_string (Kd.R_reads' HO_8.out).2.2 x59_2 p273 q273
             cases e273
             replace p273 := eq_true p273
             replace q273 := eq_true q273
             refine start_ (n := 20) (S := fun w' => w'.cell? ⟨gb272, 0, none⟩ = some (.string ((rd_T41 t262 x59_2).f0)) ∧ w'.cell? ⟨gb272, 1, none⟩ = some (.string ((rd_T41 t262 x59_2).f1)) ∧ w'.cell? ⟨gb272, 2, none⟩ = some (.string ((rd_T41 t262 x59_2).f2)) ∧ w'.cell? (ad273.add (x59_2).toNat) = some (.string (rdOf ByteArray.empty t259 x59_2))) (ds := []) #[false, false, false, false, false, false, false, false, false, false, false, false, false, false, false, false, false, false, false, false] (by kernel_rfl) rfl rfl ⟨(blk_cell BK272.out 0).trans rfl, (blk_cell BK272.out 1).trans rfl, (blk_cell BK272.out 2).trans rfl, hx273_0⟩ (fun hHeld => ?_); refine with_tabW postriderlaw07_HeadBytes.tab8 postriderlaw07_HeadBytes.bits8 (fun HT_ HW_ => ?_)
             generalize w43.drew = w44 at HO_8 HO_57 HO_269000 BK257 BK268 BK272 HB hx273_0 hHeld ⊢
             refine pure_ (i := 0) (N := some 64) (v := ?_) (a' := ?_) #[true, false, false, false, false, false, false, false, false, false, false, false, false, false, false, false, false, false, false, false] rfl rfl (any_of HT_.out (by kernel_rfl)) (fun _ _ _ h => h) (Or.inl ⟨by rfl, ?_⟩) ?_ ?_
             rotate_left
             ·intro w'
              go_simp
              with_reducible rfl
             rotate_left
             ·simp only [Act.put, List.setIfInBounds_toArray, List.set_cons_zero, List.set_cons_succ, i64_w, i32_w]
              rfl
             refine pure_ (i := 2) (N := some 66) (v := ?_) (a' := ?_) #[true, false, true, false, false, false, false, false, false, false, false, false, false, false, false, false, false, false, false, false] rfl rfl (any_of HT_.out (by kernel_rfl)) (fun _ _ _ h => h) (Or.inl ⟨by rfl, ?_⟩) ?_ ?_
             rotate_left
             ·intro w'
              go_simp
              with_reducible rfl
             rotate_left
             ·simp only [Act.put, List.setIfInBounds_toArray, List.set_cons_zero, List.set_cons_succ, i64_w, i32_w]
              rfl
             refine pure_ (i := 3) (N := some 67) (v := ?_) (a' := ?_) #[true, false, true, true, false, false, false, false, false, false, false, false, false, false, false, false, false, false, false, false] rfl rfl (any_of HT_.out (by kernel_rfl)) (fun _ _ _ h => h) (Or.inl ⟨by rfl, ?_⟩) ?_ ?_
             rotate_left
             ·intro w'
              go_simp
              with_reducible rfl
             rotate_left
             ·simp only [Act.put, List.setIfInBounds_toArray, List.set_cons_zero, List.set_cons_succ, i64_w, i32_w]
              rfl
             refine pure_ (i := 4) (N := some 68) (v := ?_) (a' := ?_) #[true, false, true, true, true, false, false, false, false, false, false, false, false, false, false, false, false, false, false, false] rfl rfl (any_of HT_.out (by kernel_rfl)) (fun _ _ _ h => h) (Or.inl ⟨by rfl, ?_⟩) ?_ ?_
             rotate_left
             ·intro w'
              go_simp
              with_reducible rfl
             rotate_left
             ·simp only [Act.put, List.setIfInBounds_toArray, List.set_cons_zero, List.set_cons_succ, i64_w, i32_w]
              rfl
             refine take_ (i := 1) (N := some 65) (v := ?_) (a' := ?_) #[true, true, true, true, true, false, false, false, false, false, false, false, false, false, false, false, false, false, false, false] rfl rfl (take_ofW HT_.out HW_.out (by kernel_rfl)) (fun _ _ _ h => h) (Or.inl ⟨by rfl, ?_⟩) hHeld ?_ ?_
             rotate_left
             ·rintro w' ⟨s0, s1, s2, s3⟩
              go_simp
              with_reducible rfl
             rotate_left
             ·simp only [Act.put, List.setIfInBounds_toArray, List.set_cons_zero, List.set_cons_succ, i64_w, i32_w]
              rfl
             refine take_ (i := 5) (N := some 69) (v := ?_) (a' := ?_) #[true, true, true, true, true, true, false, false, false, false, false, false, false, false, false, false, false, false, false, false] rfl rfl (take_ofW HT_.out HW_.out (by kernel_rfl)) (fun _ _ _ h => h) (Or.inl ⟨by rfl, ?_⟩) hHeld ?_ ?_
             rotate_left
             ·rintro w' ⟨s0, s1, s2, s3⟩
              go_simp
              with_reducible rfl
             rotate_left
             ·simp only [Act.put, List.setIfInBounds_toArray, List.set_cons_zero, List.set_cons_succ, i64_w, i32_w]
              rfl
             refine pure_ (i := 6) (N := some 70) (v := ?_) (a' := ?_) #[true, true, true, true, true, true, true, false, false, false, false, false, false, false, false, false, false, false, false, false] rfl rfl (any_of HT_.out (by kernel_rfl)) (fun _ _ _ h => h) (Or.inl ⟨by rfl, ?_⟩) ?_ ?_
             rotate_left
             ·intro w'
              go_simp
              with_reducible rfl
             rotate_left
             ·simp only [Act.put, List.setIfInBounds_toArray, List.set_cons_zero, List.set_cons_succ, i64_w, i32_w]
              rfl
             refine pure_ (i := 7) (N := some 71) (v := ?_) (a' := ?_) #[true, true, true, true, true, true, true, true, false, false, false, false, false, false, false, false, false, false, false, false] rfl rfl (any_of HT_.out (by kernel_rfl)) (fun _ _ _ h => h) (Or.inl ⟨by rfl, ?_⟩) ?_ ?_
             rotate_left
             ·intro w'
              go_simp
              with_reducible rfl
             rotate_left
             ·simp only [Act.put, List.setIfInBounds_toArray, List.set_cons_zero, List.set_cons_succ, i64_w, i32_w]
              rfl
             refine pure_ (i := 8) (N := some 72) (v := ?_) (a' := ?_) #[true, true, true, true, true, true, true, true, true, false, false, false, false, false, false, false, false, false, false, false] rfl rfl (any_of HT_.out (by kernel_rfl)) (fun _ _ _ h => h) (Or.inl ⟨by rfl, ?_⟩) ?_ ?_
             rotate_left
             ·intro w'
              go_simp
              with_reducible rfl
             rotate_left
             ·simp only [Act.put, List.setIfInBounds_toArray, List.set_cons_zero, List.set_cons_succ, i64_w, i32_w]
              rfl
             refine take_ (i := 9) (N := some 73) (v := ?_) (a' := ?_) #[true, true, true, true, true, true, true, true, true, true, false, false, false, false, false, false, false, false, false, false] rfl rfl (take_ofW HT_.out HW_.out (by kernel_rfl)) (fun _ _ _ h => h) (Or.inl ⟨by rfl, ?_⟩) hHeld ?_ ?_
             rotate_left
             ·rintro w' ⟨s0, s1, s2, s3⟩
              go_simp
              with_reducible rfl
             rotate_left
             ·simp only [Act.put, List.setIfInBounds_toArray, List.set_cons_zero, List.set_cons_succ, i64_w, i32_w]
              rfl
             refine one_ (i := 10) (N := some 74) #[true, true, true, true, true, true, true, true, true, true, true, false, false, false, false, false, false, false, false, false] rfl rfl (one_of HT_.out (by kernel_rfl)) (by decide) (fun K hK => ?_)
             refine goes_ Tryd.func36 (by kernel_rfl) rfl #[.string ((rd_T41 t262 x59_2).f1), .string (⟨#[13, 10]⟩ : ByteArray)] (by rfl) rfl rfl ml ?_
             with_reducible refine (strings_ContainsAny.calls ((rd_T41 t262 x59_2).f1) (⟨#[13, 10]⟩ : ByteArray) false _ A35.out).mono ?_
             rintro e w46 ⟨rfl, hb⟩
             have HS3_ := (hb.cell (World.block_lt_of_cell? _ _ (hHeld.2.2.2))).trans (hHeld.2.2.2)
             refine ⟨_, rfl, ?_⟩
             have n0_ := Aside0.mk (Kd.R_below (kr HO_8.out) hb)
             have n1_ := Aside0.mk (Kd.R_below (kr HO_57.out) hb)
             have n2_ := Aside0.mk (Kd.R_below (kr HO_269000.out) hb)
             have n3_ := Aside0.mk (kb BK257.out hb)
             have n4_ := Aside0.mk (kb BK268.out hb)
             have n5_ := Aside0.mk (kb BK272.out hb)
             have n6_ := Aside0.mk (below_step bl hb)
             clear HO_8
             clear HO_57
             clear HO_269000
             clear BK257
             clear BK268
             clear BK272
             clear HB
             have HO_8 := n0_
             have HO_57 := n1_
             have HO_269000 := n2_
             have BK257 := n3_
             have BK268 := n4_
             have BK272 := n5_
             have HB := n6_
             clear n0_ n1_ n2_ n3_ n4_ n5_ n6_
             (try clear hb)
             (try clear hb2)
             (try clear hk)
             (try clear hi)
             refine hK.out _ _ ⟨(blk_cell BK272.out 0).trans rfl, (blk_cell BK272.out 1).trans rfl, (blk_cell BK272.out 2).trans rfl, HS3_⟩ (fun hHeld => ?_)
             clear hK K
             refine norm_ (a' := ?_) ?_ ?_
             rotate_left
             ·show Act.put _ (some 74) _ = _
              simp only [Act.put, List.setIfInBounds_toArray, List.set_cons_zero, List.set_cons_succ, i64_w, i32_w]
              rfl
             refine pure_ (i := 11) (N := some 75) (v := ?_) (a' := ?_) #[true, true, true, true, true, true, true, true, true, true, true, true, false, false, false, false, false, false, false, false] rfl rfl (any_of HT_.out (by kernel_rfl)) (fun _ _ _ h => h) (Or.inl ⟨by rfl, ?_⟩) ?_ ?_
             rotate_left
             ·intro w'
              go_simp
              with_reducible rfl
             rotate_left
             ·simp only [Act.put, List.setIfInBounds_toArray, List.set_cons_zero, List.set_cons_succ, i64_w, i32_w]
              rfl
             refine pure_ (i := 12) (N := some 76) (v := ?_) (a' := ?_) #[true, true, true, true, true, true, true, true, true, true, true, true, true, false, false, false, false, false, false, false] rfl rfl (any_of HT_.out (by kernel_rfl)) (fun _ _ _ h => h) (Or.inl ⟨by rfl, ?_⟩) ?_ ?_
             rotate_left
             ·intro w'
              go_simp
              with_reducible rfl
             rotate_left
             ·simp only [Act.put, List.setIfInBounds_toArray, List.set_cons_zero, List.set_cons_succ, i64_w, i32_w]
              rfl
             refine pure_ (i := 13) (N := some 77) (v := ?_) (a' := ?_) #[true, true, true, true, true, true, true, true, true, true, true, true, true, true, false, false, false, false, false, false] rfl rfl (any_of HT_.out (by kernel_rfl)) (fun _ _ _ h => h) (Or.inl ⟨by rfl, ?_⟩) ?_ ?_
             rotate_left
             ·intro w'
              go_simp
              with_reducible rfl
             rotate_left
             ·simp only [Act.put, List.setIfInBounds_toArray, List.set_cons_zero, List.set_cons_succ, i64_w, i32_w]
              rfl
             refine pure_ (i := 15) (N := some 79) (v := ?_) (a' := ?_) #[true, true, true, true, true, true, true, true, true, true, true, true, true, true, false, true, false, false, false, false] rfl rfl (any_of HT_.out (by kernel_rfl)) (fun _ _ _ h => h) (Or.inl ⟨by rfl, ?_⟩) ?_ ?_
             rotate_left
             ·intro w'
              go_simp
              with_reducible rfl
             rotate_left
             ·simp only [Act.put, List.setIfInBounds_toArray, List.set_cons_zero, List.set_cons_succ, i64_w, i32_w]
              rfl
             refine take_ (i := 14) (N := some 78) (v := ?_) (a' := ?_) #[true, true, true, true, true, true, true, true, true, true, true, true, true, true, true, true, false, false, false, false] rfl rfl (take_ofW HT_.out HW_.out (by kernel_rfl)) (fun _ _ _ h => h) (Or.inl ⟨by rfl, ?_⟩) hHeld ?_ ?_
             rotate_left
             ·rintro w' ⟨s0, s1, s2, s3⟩
              go_simp
              with_reducible rfl
             rotate_left
             ·simp only [Act.put, List.setIfInBounds_toArray, List.set_cons_zero, List.set_cons_succ, i64_w, i32_w]
              rfl
             refine take_ (i := 16) (N := some 80) (v := ?_) (a' := ?_) #[true, true, true, true, true, true, true, true, true, true, true, true, true, true, true, true, true, false, false, false] rfl rfl (take_ofW HT_.out HW_.out (by kernel_rfl)) (fun _ _ _ h => h) (Or.inl ⟨by rfl, ?_⟩) hHeld ?_ ?_
             rotate_left
             ·rintro w' ⟨s0, s1, s2, s3⟩
              go_simp
              with_reducible rfl
             rotate_left
             ·simp only [Act.put, List.setIfInBounds_toArray, List.set_cons_zero, List.set_cons_succ, i64_w, i32_w]
              rfl
             refine one_ (i := 17) (N := some 81) #[true, true, true, true, true, true, true, true, true, true, true, true, true, true, true, true, true, true, false, false] rfl rfl (one_of HT_.out (by kernel_rfl)) (by decide) (fun K hK => ?_)
             refine goes_ Tryd.func15 (by kernel_rfl) rfl #[.string ((rd_T41 t262 x59_2).f1), .string (⟨#[32, 9]⟩ : ByteArray)] (by rfl) rfl rfl ml ?_
             with_reducible refine (strings_Trim.calls ((rd_T41 t262 x59_2).f1) (⟨#[32, 9]⟩ : ByteArray) t275 _ A37.out).mono ?_
             rintro e w47 ⟨rfl, hb⟩
             have HS3_ := (hb.cell (World.block_lt_of_cell? _ _ (hHeld.2.2.2))).trans (hHeld.2.2.2)
             refine ⟨_, rfl, ?_⟩
             have n0_ := Aside0.mk (Kd.R_below (kr HO_8.out) hb)
             have n1_ := Aside0.mk (Kd.R_below (kr HO_57.out) hb)
             have n2_ := Aside0.mk (Kd.R_below (kr HO_269000.out) hb)
             have n3_ := Aside0.mk (kb BK257.out hb)
             have n4_ := Aside0.mk (kb BK268.out hb)
             have n5_ := Aside0.mk (kb BK272.out hb)
             have n6_ := Aside0.mk (below_step bl hb)
             clear HO_8
             clear HO_57
             clear HO_269000
             clear BK257
             clear BK268
             clear BK272
             clear HB
             have HO_8 := n0_
             have HO_57 := n1_
             have HO_269000 := n2_
             have BK257 := n3_
             have BK268 := n4_
             have BK272 := n5_
             have HB := n6_
             clear n0_ n1_ n2_ n3_ n4_ n5_ n6_
             (try clear hb)
             (try clear hb2)
             (try clear hk)
             (try clear hi)
             refine hK.out _ _ ⟨(blk_cell BK272.out 0).trans rfl, (blk_cell BK272.out 1).trans rfl, (blk_cell BK272.out 2).trans rfl, HS3_⟩ (fun hHeld => ?_)
             clear hK K
             refine norm_ (a' := ?_) ?_ ?_
             rotate_left
             ·show Act.put _ (some 81) _ = _
              simp only [Act.put, List.setIfInBounds_toArray, List.set_cons_zero, List.set_cons_succ, i64_w, i32_w]
              rfl
             refine pure_ (i := 18) (N := some 82) (v := ?_) (a' := ?_) #[true, true, true, true, true, true, true, true, true, true, true, true, true, true, true, true, true, true, true, false] rfl rfl (any_of HT_.out (by kernel_rfl)) (fun _ _ _ h => h) (Or.inl ⟨by rfl, ?_⟩) ?_ ?_
             rotate_left
             ·intro w'
              go_simp
              with_reducible rfl
             rotate_left
             ·simp only [Act.put, List.setIfInBounds_toArray, List.set_cons_zero, List.set_cons_succ, i64_w, i32_w]
              rfl
             refine pure_ (i := 19) (N := some 83) (v := ?_) (a' := ?_) #[true, true, true, true, true, true, true, true, true, true, true, true, true, true, true, true, true, true, true, true] rfl rfl (any_of HT_.out (by kernel_rfl)) (fun _ _ _ h => h) (Or.inl ⟨by rfl, ?_⟩) ?_ ?_
             rotate_left
             ·intro w'
              go_simp
              with_reducible rfl
             rotate_left
             ·simp only [Act.put, List.setIfInBounds_toArray, List.set_cons_zero, List.set_cons_succ, i64_w, i32_w]
              rfl
             refine done_ (done_of HT_.out (by kernel_rfl)) ?_
             try go_wp2
             go_roundg k2
             case measure => have := HJ5.out; have := HK2.out; omega
             case rel => exact ⟨(wrap64 (x59_2 + 1)), (by first | rfl | (simp; done) | (simp [*]; done)), H', ⟨by have := HJ5.out; have := HK2.out; omega⟩, ⟨by (with_reducible repeat (first | apply Kd.R_alloc | apply Kd.R_drewN | apply Kd.R_drew)); exact HO_8.out⟩, ⟨by (with_reducible repeat (first | apply Kd.R_alloc | apply Kd.R_drewN | apply Kd.R_drew)); exact Kd.R_mono HO_57.out (fun _ hk => trivial)⟩, ⟨by (with_reducible repeat (first | apply Kd.R_alloc | apply Kd.R_drewN | apply Kd.R_drew)); exact Kd.R_mono HO_269000.out (fun _ hk => trivial)⟩, ⟨by (with_reducible repeat (first | refine blk_drewN ?_ _ | refine blk_drew ?_ | refine blk_alloc ?_ _)); exact BK257.out⟩, ⟨by (with_reducible repeat (first | refine blk_drewN ?_ _ | refine blk_drew ?_ | refine blk_alloc ?_ _)); exact BK268.out⟩, ⟨by repeat (first | (with_reducible first | exact HB.out | apply below_alloc | apply pw_below_drewN | apply below_drew1 | refine below_set ?_ GE257.out | refine below_set ?_ GE268.out | refine below_set ?_ GE272.out) | exact HB.out)⟩⟩
            ·rw [if_neg c38] at H
             have c38b0 : (((rd_T41 t262 x59_2).f1).toList == t275.toList) = false := beq_eq_false_iff_ne.mpr c38
             have c38b1 : (((rd_T41 t262 x59_2).f1).toList != t275.toList) = true := bne_iff_ne.mpr c38
             exact absurd ((Option.some.inj H).trans HT_r.out) (by decide)
          ·rw [if_neg c34] at H
           have c34b0 : (((rd_T41 t262 x59_2).f0).toList == (rdOf ByteArray.empty t259 x59_2).toList) = false := beq_eq_false_iff_ne.mpr c34
           have c34b1 : (((rd_T41 t262 x59_2).f0).toList != (rdOf ByteArray.empty t259 x59_2).toList) = true := bne_iff_ne.mpr c34
           exact absurd ((Option.some.inj H).trans HT_r.out) (by decide)
         ·rw [if_neg c33] at H
          exact absurd H (by simp)
        ·rw [if_neg c32] at H
         exact absurd H (by simp)
       ·rw [if_neg c31] at H
        exact absurd H (by simp)
      ·rw [if_neg c30] at H
       have c30b0 : decide (x59_2 < (t262.length : Int)) = false := decide_eq_false c30
       clear c30
       obtain ⟨ji48, hji48⟩ : ∃ j_ : Int, (mn (a2_0.size : Int) 400) = j_ := ⟨_, rfl⟩
       replace H : (if 0 ≤ (ji48) then (if (ji48) ≤ (a2_0.size : Int) then (if (a2_0.extract 0 ((ji48) : Int).toNat).size ≤ 9223372036854775807 then ((some (Kd.numsOf (a2_0.extract 0 ((ji48) : Int).toNat) : List Int)).bind fun y276 => (postriderlaw07_HeadBytes.l1 k2 t258 t259 y276 (y276.length : Int) 0 a2_0 a2_1 a2_2 t262 t265 t266)) else (none)) else (none)) else (none)) = some r := by first | (rw [hji48] at H; exact H) | (simp only [hji48] at H ⊢; exact H)
       have hji48_ : (if 400 < (a2_0.size : Int) then 400 else (a2_0.size : Int)) = ji48 := hji48
       by_cases c49 : 0 ≤ (ji48)
       ·rw [if_pos c49] at H
        have c49b0 := eq_true c49
        have c49b1 : decide (0 ≤ (ji48)) = true := decide_eq_true c49
        clear c49
        by_cases c50 : (ji48) ≤ (a2_0.size : Int)
        ·rw [if_pos c50] at H
         have c50b0 := eq_true c50
         have c50b1 : decide ((ji48) ≤ (a2_0.size : Int)) = true := decide_eq_true c50
         clear c50
         obtain ⟨js51, hjs51⟩ : ∃ j_ : ByteArray, (a2_0.extract 0 ((ji48) : Int).toNat) = j_ := ⟨_, rfl⟩
         replace H : (if js51.size ≤ 9223372036854775807 then ((some (Kd.numsOf js51 : List Int)).bind fun y276 => (postriderlaw07_HeadBytes.l1 k2 t258 t259 y276 (y276.length : Int) 0 a2_0 a2_1 a2_2 t262 t265 t266)) else (none)) = some r := by first | (rw [hjs51] at H; exact H) | (simp only [hjs51] at H ⊢; exact H)
         by_cases c52 : js51.size ≤ 9223372036854775807
         ·rw [if_pos c52] at H
          have c52b0 := eq_true c52
          have c52b1 : decide (js51.size ≤ 9223372036854775807) = true := decide_eq_true c52
          try have c52b2 : (9223372036854775807 < js51.size) = False := eq_false (Nat.not_lt.2 c52)
          clear c52
          obtain ⟨y276, hy276⟩ : ∃ y_ : List Int, y_ = (Kd.numsOf js51) := ⟨_, rfl⟩
          replace H : (postriderlaw07_HeadBytes.l1 k2 t258 t259 y276 (y276.length : Int) 0 a2_0 a2_1 a2_2 t262 t265 t266) = some r := by first | (rw [hy276]; with_reducible exact H) | (have H2_ := (Option.bind_some _ _).symm.trans H; rw [hy276]; with_reducible exact H2_) | (have H2_ := (Option.bind_some _ _).symm.trans H; with_reducible exact H2_) | with_reducible exact H | (rw [hy276]; exact H) | exact H
          have Ny276 := Aside0.mk hy276
          clear hy276
          have H' := Aside0.mk H
          clear H
          have hnb53 := NB257_268.out
          have hnc53 := NB268_257.out
          have hcz54_0 : wr.cell? ⟨gb257, 0, none⟩ = some (.string a2_0) := (blk_cell BK257.out 0).trans rfl
          have hcz54_1 : wr.cell? ⟨gb257, 1, none⟩ = some (.int .u8 a2_1) := (blk_cell BK257.out 1).trans rfl
          have hcz54_2 : wr.cell? ⟨gb257, 2, none⟩ = some (.bool a2_2) := (blk_cell BK257.out 2).trans rfl
          have hfz54_0 := blk_frozen BK257.out 0
          have hfz54_1 := blk_frozen BK257.out 1
          have hfz54_2 := blk_frozen BK257.out 2
          go_wp2_with (first | ((with_reducible refine gate_dst (N := 92) rfl ?_); (try (refine gate_guard (by rfl) ?_; dsimp only)); refine Kd.B_bytes _ 5 rfl (N := 92) rfl 9 39 _ js51 rfl rfl Tryd.underlying9 Tryd.underlying39 Tryd.underlying5 (ok := fun _ => True) trivial (od) (Below.refl _ _) (Nat.le_refl _) ?_; intro v277 w55 ho56 hb hg_ hnew_; clear hg_ hnew_; (first | rw [← Ny276.out] at ho56 | (simp only [Int.reduceToNat] at ho56; rw [← Ny276.out] at ho56)); have n0_ := Aside0.mk (Kd.R_below (kr HO_8.out) hb); have n1_ := Aside0.mk (Kd.R_below (kr HO_57.out) hb); have n2_ := Aside0.mk (Kd.R_below (kr HO_269000.out) hb); have n3_ := Aside0.mk (Kd.B_lower ho56 (below_size bl)); have n4_ := Aside0.mk (kb BK257.out hb); have n5_ := Aside0.mk (kb BK268.out hb); have n6_ := Aside0.mk (below_step bl hb); clear HO_8; clear HO_57; clear HO_269000; clear BK257; clear BK268; clear HB; have HO_8 := n0_; have HO_57 := n1_; have HO_269000 := n2_; have HO278 := n3_; have BK257 := n4_; have BK268 := n5_; have HB := n6_; clear n0_ n1_ n2_ n3_ n4_ n5_ n6_; clear hb ho56; obtain ⟨Ao57, co57, eo57⟩ := Kd.B_slice HO278.out; subst eo57))
          go_loopg [95] k2 (fun kq v95 w' => ∃ (x13_3 : List Int) (x95_3 : Int), v95 = .int .i64 x95_3 ∧ Aside0 (postriderlaw07_HeadBytes.l1 kq t258 t259 x13_3 (y276.length : Int) x95_3 a2_0 a2_1 a2_2 t262 t265 t266 = some r) ∧ Aside0 (kq ≤ k2) ∧ Aside0 (Kd.R Kd.string 9 w' w.heap.size (fun _ => True) v260 t259) ∧ Aside0 (Kd.B (Kd.int .u8) 5 w' w.heap.size (fun _ => True) (.slice Ao57 y276.length co57) x13_3) ∧ Aside0 (Kd.R k41 41 w' w.heap.size (fun _ => True) (.slice Ao12 t262.length co12) t262) ∧ Aside0 (w'.heap[gb257]? = some (.cells #[.string a2_0, .int .u8 a2_1, .bool a2_2] 70 (0, 0))) ∧ Aside0 (w'.heap[gb268]? = some (.cells #[(.slice Ao12 t262.length co12), .string t265, .bool t266] 24 (0, 0))) ∧ Aside0 (Below w.heap.size w w'))
          case atStart => exact ⟨(y276), (0), (by first | rfl | (simp; done) | (simp [*]; done)), H', ⟨Nat.le_refl _⟩, ⟨by (with_reducible repeat (first | apply Kd.R_alloc | apply Kd.R_drewN | apply Kd.R_drew)); exact HO_8.out⟩, ⟨by (with_reducible repeat (first | apply Kd.B_alloc | apply Kd.B_drewN | apply Kd.B_drew)); exact HO278.out⟩, ⟨by (with_reducible repeat (first | apply Kd.R_alloc | apply Kd.R_drewN | apply Kd.R_drew)); exact HO_269000.out⟩, ⟨by (with_reducible repeat (first | refine blk_drewN ?_ _ | refine blk_drew ?_ | refine blk_alloc ?_ _)); exact BK257.out⟩, ⟨by (with_reducible repeat (first | refine blk_drewN ?_ _ | refine blk_drew ?_ | refine blk_alloc ?_ _)); exact BK268.out⟩, ⟨by repeat (first | (with_reducible first | exact HB.out | apply below_alloc | apply pw_below_drewN | apply below_drew1 | refine below_set ?_ GE257.out | refine below_set ?_ GE268.out) | exact HB.out)⟩⟩
          case round => as_aux_lemma =>
           clear H'
           try clear c1
           try clear c2
           try clear p2
           try clear q2
           try clear hx2
           try clear c3
           try clear c4
           try clear c5
           try clear p6
           try clear c7
           try clear c9
           try clear c13
           try clear c15
           try clear c15b0
           try clear c15b1
           try clear c17
           try clear c17b0
           try clear c17b1
           try clear c19
           try clear c20
           try clear c27
           try clear p27
           try clear q27
           try clear hx27
           try clear c28
           try clear c30
           try clear c30b0
           try clear c31
           try clear c31b0
           try clear c32
           try clear c32b0
           try clear c33
           try clear c33b0
           try clear c34
           try clear c34b0
           try clear c34b1
           try clear c36
           try clear c38
           try clear c38b0
           try clear c38b1
           try clear c40
           try clear c41
           try clear c49
           try clear c49b0
           try clear c49b1
           try clear c50
           try clear c50b0
           try clear c50b1
           try clear c52
           try clear c52b0
           try clear c52b1
           try clear c52b2
           try clear c53
           try clear hcz14_0
           try clear hcz14_1
           try clear hcz14_2
           try clear hcz21_0
           try clear hcz21_1
           try clear hcz21_2
           try clear hcz23_0
           try clear hcz23_1
           try clear hcz23_2
           try clear hcz25_0
           try clear hcz25_1
           try clear hcz25_2
           try clear hcz29_0
           try clear hcz29_1
           try clear hcz29_2
           try clear hcz42_0
           try clear hcz42_1
           try clear hcz42_2
           try clear hcz54_0
           try clear hcz54_1
           try clear hcz54_2
           try clear hcz8_0
           try clear hcz8_1
           try clear hcz8_2
           try clear hfz14_0
           try clear hfz14_1
           try clear hfz14_2
           try clear hfz21_0
           try clear hfz21_1
           try clear hfz21_2
           try clear hfz23_0
           try clear hfz23_1
           try clear hfz23_2
           try clear hfz25_0
           try clear hfz25_1
           try clear hfz25_2
           try clear hfz29_0
           try clear hfz29_1
           try clear hfz29_2
           try clear hfz42_0
           try clear hfz42_1
           try clear hfz42_2
           try clear hfz54_0
           try clear hfz54_1
           try clear hfz54_2
           try clear hfz8_0
           try clear hfz8_1
           try clear hfz8_2
           try clear hx271_0
           try clear hx271_1
           try clear hx271_2
           try clear hx273_0
           try clear p2
           try clear p271
           try clear p273
           try clear q271
           try clear q273
           obtain ⟨x13_3, x95_3, rfl, HA, HK3, HO_8, HO_13, HO_269000, BK257, BK268, HB⟩ := hrel
           have hl13_3 := (Kd.B_reads' HO_13.out).1
           rw [hl13_3] at HO_13
           (try simp only [hl13_3])
           (try simp only [hl13_3] at BK257)
           (try simp only [hl13_3] at BK268)
           (try simp only [hl13_3] at HO_8)
           (try simp only [hl13_3] at HO_269000)
           cases gk with
           | zero => exact absurd HA.out (by simp [postriderlaw07_HeadBytes.l1])
           | succ k3 =>
            have H := HA.out
            clear HA
            simp only [postriderlaw07_HeadBytes.l1] at H
            by_cases c58 : x95_3 < (y276.length : Int)
            ·rw [if_pos c58] at H
             have c58b0 : decide (x95_3 < (y276.length : Int)) = true := decide_eq_true c58
             (try simp only [hl13_3] at c58b0)
             clear c58
             by_cases c59 : 0 ≤ x95_3
             ·rw [if_pos c59] at H
              have c59b0 : decide (0 ≤ x95_3) = true := decide_eq_true c59
              (try simp only [hl13_3] at c59b0)
              clear c59
              by_cases c60 : x95_3 < (x13_3.length : Int)
              ·rw [if_pos c60] at H
               have c60b0 : decide (x95_3 < (x13_3.length : Int)) = true := decide_eq_true c60
               (try simp only [hl13_3] at c60b0)
               clear c60
               obtain ⟨y280, hy280⟩ : ∃ y_ : List Int, y_ = (x13_3.set (x95_3 : Int).toNat ((32 + (Int.tmod (rd x13_3 x95_3) 95)) % 256)) := ⟨_, rfl⟩
               replace H : (postriderlaw07_HeadBytes.l1 k3 t258 t259 y280 (y276.length : Int) (wrap64 (x95_3 + 1)) a2_0 a2_1 a2_2 t262 t265 t266) = some r := by first | (rw [hy280]; with_reducible exact H) | (have H2_ := (Option.bind_some _ _).symm.trans H; rw [hy280]; with_reducible exact H2_) | (have H2_ := (Option.bind_some _ _).symm.trans H; with_reducible exact H2_) | with_reducible exact H | (rw [hy280]; exact H) | exact H
               have Ny280 := Aside0.mk hy280
               clear hy280
               have H' := Aside0.mk H
               clear H
               have p279 : 0 ≤ (x95_3 : Int) := od
               have q279 : x95_3 < (x13_3.length : Int) := od
               obtain ⟨ad279, e279, hx279_0⟩ := Kd.at_int (Kd.B_reads' HO_13.out).2.2 x95_3 p279 q279
               cases e279
               replace p279 := eq_true p279
               replace q279 := eq_true q279
               have p61 : 0 ≤ (x95_3 : Int) := od
               have q61 : (x95_3 : Int) < ((x13_3.length : Int) : Int) := od
               obtain ⟨go61, co61, eo61, gb61, gl61, cl61, HG61⟩ := Kd.B_form HO_13.out (by omega)
               (first | cases eo61 | (injection eo61 with ea_ en_ ec_; (first | subst ea_ | (injection ea_ with ea_; subst ea_)); subst ec_; clear en_))
               have GB61 := Aside0.mk gb61
               have GG61 := Aside0.mk HG61
               clear gb61 gl61 HG61
               (first | simp only [add_plain] at hx279_0 | skip)
               obtain ⟨hx61_0, hf61_0⟩ := Kd.B_celln 0 HO_13.out (x95_3 : Int) p61 q61
               replace p61 := eq_true p61
               replace q61 := eq_true q61
               have HP62 := Kd.B_putg HO_13.out (x95_3 : Int) ((32 + (Int.tmod (rd x13_3 x95_3) 95)) % 256)
               go_wp2_with (first | ((with_reducible refine gate_store (t := 5) (p := 106) rfl ?_); refine store_event (t := 5) (p := 106) (v := ?vo_w63) (w1 := (wr.setCell ⟨go61, (x95_3 : Int).toNat, none⟩ (.int .u8 ((32 + (Int.tmod (rd x13_3 x95_3) 95)) % 256)))) ?hg ?ho ?hn ?hr ?_; (case ho => rfl); (case hg => rfl); (case hn => rfl); (case hr => first | (go_simp; done) | (go_simp; rfl)); intro w63 hw; have hg : wr.grownBy w63 (some go61) := (by rw [hw]; exact HP62.2); have hp_ : Kd.B (Kd.int .u8) 5 w63 w.heap.size (fun _ => True) (.slice (some ⟨go61, 0, none⟩) x13_3.length co57) y280 := (by rw [hw, Ny280.out]; exact HP62.1); clear HP62; have n0_ := Aside0.mk (Kd.R_overB (v := (.slice (some ⟨go61, 0, none⟩) x13_3.length co57)) (kr HO_8.out) (Kd.B_typed HO_13.out) (by decide) hg); have n1_ := Aside0.mk (hp_); have n2_ := Aside0.mk (Kd.R_overB (v := (.slice (some ⟨go61, 0, none⟩) x13_3.length co57)) (kr HO_269000.out) (Kd.B_typed HO_13.out) (by decide) hg); have n3_ := Aside0.mk (blk_grown (g := gb257) (o := .cells #[.string a2_0, .int .u8 a2_1, .bool a2_2] 70 (0, 0)) (bk BK257.out) hg (Kd.B_ne HO_13.out BK257.out (by decide))); have n4_ := Aside0.mk (blk_grown (g := gb268) (o := .cells #[.slice Ao12 t262.length co12, .string t265, .bool t266] 24 (0, 0)) (bk BK268.out) hg (Kd.B_ne HO_13.out BK268.out (by decide))); have n5_ := Aside0.mk ((by rw [hw]; exact below_set (HB.out) GB61.out : Below w.heap.size w w63)); clear HO_8; clear HO_13; clear HO_269000; clear BK257; clear BK268; clear HB; have HO_8 := n0_; have HO_13 := n1_; have HO_269000 := n2_; have BK257 := n3_; have BK268 := n4_; have HB := n5_; clear n0_ n1_ n2_ n3_ n4_ n5_; clear hg hw hp_))
               (try simp only [← hl13_3])
               go_roundg k3
               case measure => have := HJ5.out; have := HK2.out; have := HK3.out; omega
               case rel => exact ⟨(y280), (wrap64 (x95_3 + 1)), (by first | rfl | (simp; done) | (simp [*]; done)), H', ⟨by have := HJ5.out; have := HK2.out; have := HK3.out; omega⟩, ⟨by (try simp only [hl13_3]); (with_reducible repeat (first | apply Kd.R_alloc | apply Kd.R_drewN | apply Kd.R_drew)); exact HO_8.out⟩, ⟨by (try simp only [hl13_3]); (with_reducible repeat (first | apply Kd.B_alloc | apply Kd.B_drewN | apply Kd.B_drew)); exact HO_13.out⟩, ⟨by (try simp only [hl13_3]); (with_reducible repeat (first | apply Kd.R_alloc | apply Kd.R_drewN | apply Kd.R_drew)); exact HO_269000.out⟩, ⟨by (try simp only [hl13_3]); (with_reducible repeat (first | refine blk_drewN ?_ _ | refine blk_drew ?_ | refine blk_alloc ?_ _)); exact BK257.out⟩, ⟨by (try simp only [hl13_3]); (with_reducible repeat (first | refine blk_drewN ?_ _ | refine blk_drew ?_ | refine blk_alloc ?_ _)); exact BK268.out⟩, ⟨by repeat (first | (with_reducible first | exact HB.out | apply below_alloc | apply pw_below_drewN | apply below_drew1 | refine below_set ?_ GE257.out | refine below_set ?_ GE268.out) | exact HB.out)⟩⟩
              ·rw [if_neg c60] at H
               exact absurd H (by simp)
             ·rw [if_neg c59] at H
              exact absurd H (by simp)
            ·rw [if_neg c58] at H
             have c58b0 : decide (x95_3 < (y276.length : Int)) = false := decide_eq_false c58
             (try simp only [hl13_3] at c58b0)
             clear c58
             replace H := Option.bind_eq_some_iff.mp H
             obtain ⟨⟨t281, t284, t285, t286⟩, A640, H⟩ := H
             replace H : (if t286 = 0 then ((head_Message_May.f k3 t281 t284 t285).bind fun t288 => (if t288 = true then ((head_Message_Text.f t281 t284 t285).bind fun t289 => ((strings_HasSuffix.f t289 t258).bind fun t290 => (if t290 = true then (if (t281.length : Int) = (wrap64 ((t262.length : Int) + 1)) then (if 0 < (t281.length : Int) then ((strings_Trim.f (strOfNums x13_3) (⟨#[32]⟩ : ByteArray)).bind fun t292 => (postriderlaw07_HeadBytes.j3 k3 t258 t259 x13_3 (((rd_T41 t281 0).f1).toList != t292.toList) a2_0 a2_1 a2_2 t262 t265 t266)) else (none)) else (postriderlaw07_HeadBytes.j3 k3 t258 t259 x13_3 true a2_0 a2_1 a2_2 t262 t265 t266)) else (postriderlaw07_HeadBytes.j3 k3 t258 t259 x13_3 true a2_0 a2_1 a2_2 t262 t265 t266)))) else (postriderlaw07_HeadBytes.j3 k3 t258 t259 x13_3 true a2_0 a2_1 a2_2 t262 t265 t266))) else (postriderlaw07_HeadBytes.j3 k3 t258 t259 x13_3 true a2_0 a2_1 a2_2 t262 t265 t266)) = some r := H
             have A64 := Aside0.mk A640
             clear A640
             have HC65 := Aside0.mk H
             clear H
             have hnb66 := NB268_257.out
             have hnc66 := NB257_268.out
             have hcz67_0 : wr.cell? ⟨gb268, 0, none⟩ = some (.slice Ao12 t262.length co12) := (blk_cell BK268.out 0).trans rfl
             have hcz67_1 : wr.cell? ⟨gb268, 1, none⟩ = some (.string t265) := (blk_cell BK268.out 1).trans rfl
             have hcz67_2 : wr.cell? ⟨gb268, 2, none⟩ = some (.bool t266) := (blk_cell BK268.out 2).trans rfl
             have hfz67_0 := blk_frozen BK268.out 0
             have hfz67_1 := blk_frozen BK268.out 1
             have hfz67_2 := blk_frozen BK268.out 2
             have hcv68 := Kd.B_string (P := Tryd.prog) Tryd.underlying39 Tryd.underlying5 Tryd.underlying9 HO_13.out
             go_upto_region 18 with (first | ((with_reducible refine gate_callee (f := 31) rfl ?_); refine goesL_ (some 112) rfl rfl Tryd.func31 (by kernel_rfl) rfl #[.agg #[.slice Ao12 t262.length co12, .string t265, .bool t266], .string (⟨#[88, 45, 78, 101, 119]⟩ : ByteArray), .string (strOfNums x13_3)] rfl ml ?_; (with_reducible refine (head_Message_Ahead.calls k3 _ _ t262 t265 t266 (⟨#[88, 45, 78, 101, 119]⟩ : ByteArray) (strOfNums x13_3) t281 t284 t285 t286 _ ?side1 ?side2 ?side3 A64.out).mono ?_); (case side1 => repeat (first | exact (Kd.R_reads' HO_269000.out).2.2 | (with_reducible refine Kd.C_alloc ?_ _) | (with_reducible refine Kd.C_drewN ?_ _) | (with_reducible refine Kd.C_drew ?_))); (case side2 => exact (Kd.R_reads' HO_269000.out).2.1); (case side3 => exact Glob.below HG.out bl); rintro e w69 ⟨v282, rfl, ho0, hb⟩; refine ⟨_, rfl, ?_⟩; have n0_ := Aside0.mk (Kd.R_below (kr HO_8.out) hb); have n1_ := Aside0.mk (Kd.B_below (by (with_reducible repeat (first | apply Kd.B_alloc | apply Kd.B_drewN | apply Kd.B_drew)); exact HO_13.out) hb); have n2_ := Aside0.mk (Kd.R_elder' (kr HO_269000.out) (Kd.R_base ho0) hb); have n3_ := Aside0.mk (Kd.R_lower (Kd.R_new' ho0 (Kd.R_lt (kr HO_269000.out))) (below_size bl)); have n4_ := Aside0.mk (kb BK257.out hb); have n5_ := Aside0.mk (kb BK268.out hb); have n6_ := Aside0.mk (below_step bl hb); clear HO_8; clear HO_13; clear HO_269000; clear BK257; clear BK268; clear HB; have HO_8 := n0_; have HO_13 := n1_; have HO_269000 := n2_; have HO283 := n3_; have BK257 := n4_; have BK268 := n5_; have HB := n6_; clear n0_ n1_ n2_ n3_ n4_ n5_ n6_; (try clear hb); (try clear hb2); (try clear hk); (try clear hi); (try clear ho0)) | ((with_reducible refine gate_dst (N := 15) rfl ?_); (try (refine gate_guard (by rfl) ?_; dsimp only)); refine box_event ?hg (N := 15) ?hd (cs := #[.slice none 0 0, .string (⟨#[]⟩ : ByteArray), .bool false]) (t := 24) ?hr ?_; (case hd => rfl); (case hg => rfl); (case hr => first | (go_simp; done) | (go_simp; rfl)); intro gb287 hg w70 hbox hb; have n0_ := Aside0.mk (Kd.R_below (kr HO_8.out) hb); have n1_ := Aside0.mk (Kd.B_below (by (with_reducible repeat (first | apply Kd.B_alloc | apply Kd.B_drewN | apply Kd.B_drew)); exact HO_13.out) hb); have n2_ := Aside0.mk (Kd.R_below (kr HO_269000.out) hb); have n3_ := Aside0.mk (Kd.R_below (kr HO283.out) hb); have n4_ := Aside0.mk (kb BK257.out hb); have n5_ := Aside0.mk (kb BK268.out hb); have n6_ := Aside0.mk (below_step bl hb); have n7_ := Aside0.mk (hbox); have n8_ := Aside0.mk ((by rw [hg]; exact (below_size bl) : w.heap.size ≤ gb287)); have n9_ := Aside0.mk ((by rw [hg]; exact (below_size bl) : w.heap.size ≤ gb287)); have n10_ := Aside0.mk ((by rw [hg]; exact Nat.ne_of_lt (blk_lt (bk BK257.out)) : gb257 ≠ gb287)); have n11_ := Aside0.mk ((by rw [hg]; exact Nat.ne_of_gt (blk_lt (bk BK257.out)) : gb287 ≠ gb257)); have n12_ := Aside0.mk ((by rw [hg]; exact Nat.ne_of_lt (blk_lt (bk BK268.out)) : gb268 ≠ gb287)); have n13_ := Aside0.mk ((by rw [hg]; exact Nat.ne_of_gt (blk_lt (bk BK268.out)) : gb287 ≠ gb268)); clear HO_8; clear HO_13; clear HO_269000; clear HO283; clear BK257; clear BK268; clear HB; have HO_8 := n0_; have HO_13 := n1_; have HO_269000 := n2_; have HO283 := n3_; have BK257 := n4_; have BK268 := n5_; have HB := n6_; have BK287 := n7_; have GW287 := n8_; have GE287 := n9_; have NB257_287 := n10_; have NB287_257 := n11_; have NB268_287 := n12_; have NB287_268 := n13_; clear n0_ n1_ n2_ n3_ n4_ n5_ n6_ n7_ n8_ n9_ n10_ n11_ n12_ n13_; clear hb hbox hg; obtain ⟨Ao71, co71, eo71⟩ := Kd.R_slice HO283.out; subst eo71; have hnb72 := NB287_257.out; have hnc72 := NB257_287.out; have hnb73 := NB287_268.out; have hnc73 := NB268_287.out; have hcz74_0 : w70.cell? ⟨gb287, 0, none⟩ = some (.slice none 0 0) := (blk_cell BK287.out 0).trans rfl; have hcz74_1 : w70.cell? ⟨gb287, 1, none⟩ = some (.string (⟨#[]⟩ : ByteArray)) := (blk_cell BK287.out 1).trans rfl; have hcz74_2 : w70.cell? ⟨gb287, 2, none⟩ = some (.bool false) := (blk_cell BK287.out 2).trans rfl; have hfz74_0 := blk_frozen BK287.out 0; have hfz74_1 := blk_frozen BK287.out 1; have hfz74_2 := blk_frozen BK287.out 2))
             (try simp only [Act.put, List.setIfInBounds_toArray, List.set_cons_zero, List.set_cons_succ])
             go_cut [149] (fun v149 wc => ∃ (kq : Nat) (x149_64 : Bool), v149 = .bool x149_64 ∧ Aside0 (postriderlaw07_HeadBytes.j3 kq t258 t259 x13_3 x149_64 a2_0 a2_1 a2_2 t262 t265 t266 = some r) ∧ Aside0 (kq ≤ k3) ∧ Aside0 (Kd.R Kd.string 9 wc w.heap.size (fun _ => True) v260 t259) ∧ Aside0 (Kd.B (Kd.int .u8) 5 wc w.heap.size (fun _ => True) (.slice Ao57 x13_3.length co57) x13_3) ∧ Aside0 (Kd.R k41 41 wc w.heap.size (fun k_ => some k_ ≠ ((.slice Ao71 t281.length co71) : Value).ownBlock) (.slice Ao12 t262.length co12) t262) ∧ Aside0 (Kd.R k41 41 wc w.heap.size (fun k_ => some k_ ≠ ((.slice Ao12 t262.length co12) : Value).ownBlock) (.slice Ao71 t281.length co71) t281) ∧ Aside0 (wc.heap[gb257]? = some (.cells #[.string a2_0, .int .u8 a2_1, .bool a2_2] 70 (0, 0))) ∧ Aside0 (wc.heap[gb268]? = some (.cells #[(.slice Ao12 t262.length co12), .string t265, .bool t266] 24 (0, 0))) ∧ Aside0 (wc.heap[gb287]? = some (.cells #[(.slice Ao71 t281.length co71), .string t284, .bool t285] 24 (0, 0))) ∧ Aside0 (Below w.heap.size w wc))
             case first => as_aux_lemma =>
              have H := HC65.out
              clear HC65
              by_cases c75 : t286 = 0
              ·rw [if_pos c75] at H
               have c75b0 : (t286 == 0) = true := beq_iff_eq.mpr c75
               have c75b1 : (t286 != 0) = false := bne_eq_false_iff_eq.mpr c75
               clear c75
               (first | rw [c75b0] | (simp only [i64_w, i32_w]; rw [c75b0]) | skip)
               replace H := Option.bind_eq_some_iff.mp H
               obtain ⟨t288, A760, H⟩ := H
               replace H : (if t288 = true then ((head_Message_Text.f t281 t284 t285).bind fun t289 => ((strings_HasSuffix.f t289 t258).bind fun t290 => (if t290 = true then (if (t281.length : Int) = (wrap64 ((t262.length : Int) + 1)) then (if 0 < (t281.length : Int) then ((strings_Trim.f (strOfNums x13_3) (⟨#[32]⟩ : ByteArray)).bind fun t292 => (postriderlaw07_HeadBytes.j3 k3 t258 t259 x13_3 (((rd_T41 t281 0).f1).toList != t292.toList) a2_0 a2_1 a2_2 t262 t265 t266)) else (none)) else (postriderlaw07_HeadBytes.j3 k3 t258 t259 x13_3 true a2_0 a2_1 a2_2 t262 t265 t266)) else (postriderlaw07_HeadBytes.j3 k3 t258 t259 x13_3 true a2_0 a2_1 a2_2 t262 t265 t266)))) else (postriderlaw07_HeadBytes.j3 k3 t258 t259 x13_3 true a2_0 a2_1 a2_2 t262 t265 t266)) = some r := H
               have A76 := Aside0.mk A760
               clear A760
               by_cases c77 : t288 = true
               ·subst c77
                have H1 : ((head_Message_Text.f t281 t284 t285).bind fun t289 => ((strings_HasSuffix.f t289 t258).bind fun t290 => (if t290 = true then (if (t281.length : Int) = (wrap64 ((t262.length : Int) + 1)) then (if 0 < (t281.length : Int) then ((strings_Trim.f (strOfNums x13_3) (⟨#[32]⟩ : ByteArray)).bind fun t292 => (postriderlaw07_HeadBytes.j3 k3 t258 t259 x13_3 (((rd_T41 t281 0).f1).toList != t292.toList) a2_0 a2_1 a2_2 t262 t265 t266)) else (none)) else (postriderlaw07_HeadBytes.j3 k3 t258 t259 x13_3 true a2_0 a2_1 a2_2 t262 t265 t266)) else (postriderlaw07_HeadBytes.j3 k3 t258 t259 x13_3 true a2_0 a2_1 a2_2 t262 t265 t266)))) = some r := by rw [if_pos rfl] at H; exact H
                clear H
                have H := H1
                clear H1
                replace H := Option.bind_eq_some_iff.mp H
                obtain ⟨t289, A780, H⟩ := H
                replace H : ((strings_HasSuffix.f t289 t258).bind fun t290 => (if t290 = true then (if (t281.length : Int) = (wrap64 ((t262.length : Int) + 1)) then (if 0 < (t281.length : Int) then ((strings_Trim.f (strOfNums x13_3) (⟨#[32]⟩ : ByteArray)).bind fun t292 => (postriderlaw07_HeadBytes.j3 k3 t258 t259 x13_3 (((rd_T41 t281 0).f1).toList != t292.toList) a2_0 a2_1 a2_2 t262 t265 t266)) else (none)) else (postriderlaw07_HeadBytes.j3 k3 t258 t259 x13_3 true a2_0 a2_1 a2_2 t262 t265 t266)) else (postriderlaw07_HeadBytes.j3 k3 t258 t259 x13_3 true a2_0 a2_1 a2_2 t262 t265 t266))) = some r := H
                have A78 := Aside0.mk A780
                clear A780
                replace H := Option.bind_eq_some_iff.mp H
                obtain ⟨t290, A790, H⟩ := H
                replace H : (if t290 = true then (if (t281.length : Int) = (wrap64 ((t262.length : Int) + 1)) then (if 0 < (t281.length : Int) then ((strings_Trim.f (strOfNums x13_3) (⟨#[32]⟩ : ByteArray)).bind fun t292 => (postriderlaw07_HeadBytes.j3 k3 t258 t259 x13_3 (((rd_T41 t281 0).f1).toList != t292.toList) a2_0 a2_1 a2_2 t262 t265 t266)) else (none)) else (postriderlaw07_HeadBytes.j3 k3 t258 t259 x13_3 true a2_0 a2_1 a2_2 t262 t265 t266)) else (postriderlaw07_HeadBytes.j3 k3 t258 t259 x13_3 true a2_0 a2_1 a2_2 t262 t265 t266)) = some r := H
                have A79 := Aside0.mk A790
                clear A790
                by_cases c80 : t290 = true
                ·subst c80
                 have H1 : (if (t281.length : Int) = (wrap64 ((t262.length : Int) + 1)) then (if 0 < (t281.length : Int) then ((strings_Trim.f (strOfNums x13_3) (⟨#[32]⟩ : ByteArray)).bind fun t292 => (postriderlaw07_HeadBytes.j3 k3 t258 t259 x13_3 (((rd_T41 t281 0).f1).toList != t292.toList) a2_0 a2_1 a2_2 t262 t265 t266)) else (none)) else (postriderlaw07_HeadBytes.j3 k3 t258 t259 x13_3 true a2_0 a2_1 a2_2 t262 t265 t266)) = some r := by rw [if_pos rfl] at H; exact H
                 clear H
                 have H := H1
                 clear H1
                 by_cases c81 : (t281.length : Int) = (wrap64 ((t262.length : Int) + 1))
                 ·rw [if_pos c81] at H
                  have c81b0 : ((t281.length : Int) == (wrap64 ((t262.length : Int) + 1))) = true := beq_iff_eq.mpr c81
                  have c81b1 : ((t281.length : Int) != (wrap64 ((t262.length : Int) + 1))) = false := bne_eq_false_iff_eq.mpr c81
                  clear c81
                  by_cases c82 : 0 < (t281.length : Int)
                  ·rw [if_pos c82] at H
                   have c82b0 : decide (0 < (t281.length : Int)) = true := decide_eq_true c82
                   (try simp only [hl13_3] at c82b0)
                   have c82b1 : decide (0 < t281.length) = true := decide_eq_true (by omega)
                   clear c82
                   replace H := Option.bind_eq_some_iff.mp H
                   obtain ⟨t292, A830, H⟩ := H
                   replace H : (postriderlaw07_HeadBytes.j3 k3 t258 t259 x13_3 (((rd_T41 t281 0).f1).toList != t292.toList) a2_0 a2_1 a2_2 t262 t265 t266) = some r := H
                   have A83 := Aside0.mk A830
                   clear A830
                   have H' := Aside0.mk H
                   clear H
                   try go_wp2
                   have n0_ : Aside0 (Kd.R Kd.string 9 (((w70.setCell ⟨gb287, 0, none⟩ (.slice Ao71 t281.length co71)).setCell ⟨gb287, 1, none⟩ (.string t284)).setCell ⟨gb287, 2, none⟩ (.bool t285)) w.heap.size (fun _ => True) v260 t259) := ⟨by (with_reducible repeat (first | apply Kd.R_alloc | apply Kd.R_drewN | apply Kd.R_drew)); exact Kd.R_mono (Kd.R_far (p := ⟨gb287, 2, none⟩) (Kd.R_far (p := ⟨gb287, 1, none⟩) (Kd.R_far (p := ⟨gb287, 0, none⟩) (Kd.R_types HO_8.out BK287.out (by decide)) (fun _ hk => hk.2) (.slice Ao71 t281.length co71)) (fun _ hk => hk.2) (.string t284)) (fun _ hk => hk.2) (.bool t285)) (fun _ hk => trivial)⟩
                   have n1_ : Aside0 (Kd.B (Kd.int .u8) 5 (((w70.setCell ⟨gb287, 0, none⟩ (.slice Ao71 t281.length co71)).setCell ⟨gb287, 1, none⟩ (.string t284)).setCell ⟨gb287, 2, none⟩ (.bool t285)) w.heap.size (fun _ => True) (.slice Ao57 x13_3.length co57) x13_3) := ⟨by (with_reducible repeat (first | apply Kd.B_alloc | apply Kd.B_drewN | apply Kd.B_drew)); exact Kd.B_mono (Kd.B_far (p := ⟨gb287, 2, none⟩) (Kd.B_far (p := ⟨gb287, 1, none⟩) (Kd.B_far (p := ⟨gb287, 0, none⟩) (Kd.B_types HO_13.out BK287.out (by decide)) (fun _ hk => hk.2) (.slice Ao71 t281.length co71)) (fun _ hk => hk.2) (.string t284)) (fun _ hk => hk.2) (.bool t285)) (fun _ hk => trivial)⟩
                   have n2_ : Aside0 (Kd.R k41 41 (((w70.setCell ⟨gb287, 0, none⟩ (.slice Ao71 t281.length co71)).setCell ⟨gb287, 1, none⟩ (.string t284)).setCell ⟨gb287, 2, none⟩ (.bool t285)) w.heap.size (fun k_ => some k_ ≠ (.slice Ao71 t281.length co71 : Value).ownBlock) (.slice Ao12 t262.length co12) t262) := ⟨by (with_reducible repeat (first | apply Kd.R_alloc | apply Kd.R_drewN | apply Kd.R_drew)); exact Kd.R_mono (Kd.R_far (p := ⟨gb287, 2, none⟩) (Kd.R_far (p := ⟨gb287, 1, none⟩) (Kd.R_far (p := ⟨gb287, 0, none⟩) (Kd.R_types HO_269000.out BK287.out (by decide)) (fun _ hk => hk.2) (.slice Ao71 t281.length co71)) (fun _ hk => hk.2) (.string t284)) (fun _ hk => hk.2) (.bool t285)) (fun _ hk => hk.1.2)⟩
                   have n3_ : Aside0 (Kd.R k41 41 (((w70.setCell ⟨gb287, 0, none⟩ (.slice Ao71 t281.length co71)).setCell ⟨gb287, 1, none⟩ (.string t284)).setCell ⟨gb287, 2, none⟩ (.bool t285)) w.heap.size (fun k_ => some k_ ≠ (.slice Ao12 t262.length co12 : Value).ownBlock) (.slice Ao71 t281.length co71) t281) := ⟨by (with_reducible repeat (first | apply Kd.R_alloc | apply Kd.R_drewN | apply Kd.R_drew)); exact Kd.R_mono (Kd.R_far (p := ⟨gb287, 2, none⟩) (Kd.R_far (p := ⟨gb287, 1, none⟩) (Kd.R_far (p := ⟨gb287, 0, none⟩) (Kd.R_types HO283.out BK287.out (by decide)) (fun _ hk => hk.2) (.slice Ao71 t281.length co71)) (fun _ hk => hk.2) (.string t284)) (fun _ hk => hk.2) (.bool t285)) (fun _ hk => hk.1.2)⟩
                   have n4_ : Aside0 ((((w70.setCell ⟨gb287, 0, none⟩ (.slice Ao71 t281.length co71)).setCell ⟨gb287, 1, none⟩ (.string t284)).setCell ⟨gb287, 2, none⟩ (.bool t285)).heap[gb257]? = some (.cells #[.string a2_0, .int .u8 a2_1, .bool a2_2] 70 (0, 0))) := ⟨by (with_reducible repeat (first | refine blk_drewN ?_ _ | refine blk_drew ?_ | refine blk_alloc ?_ _)); refine blk_far ?_ NB257_287.out _; (with_reducible repeat (first | refine blk_drewN ?_ _ | refine blk_drew ?_ | refine blk_alloc ?_ _)); refine blk_far ?_ NB257_287.out _; (with_reducible repeat (first | refine blk_drewN ?_ _ | refine blk_drew ?_ | refine blk_alloc ?_ _)); refine blk_far ?_ NB257_287.out _; (with_reducible repeat (first | refine blk_drewN ?_ _ | refine blk_drew ?_ | refine blk_alloc ?_ _)); exact BK257.out⟩
                   have n5_ : Aside0 ((((w70.setCell ⟨gb287, 0, none⟩ (.slice Ao71 t281.length co71)).setCell ⟨gb287, 1, none⟩ (.string t284)).setCell ⟨gb287, 2, none⟩ (.bool t285)).heap[gb268]? = some (.cells #[.slice Ao12 t262.length co12, .string t265, .bool t266] 24 (0, 0))) := ⟨by (with_reducible repeat (first | refine blk_drewN ?_ _ | refine blk_drew ?_ | refine blk_alloc ?_ _)); refine blk_far ?_ NB268_287.out _; (with_reducible repeat (first | refine blk_drewN ?_ _ | refine blk_drew ?_ | refine blk_alloc ?_ _)); refine blk_far ?_ NB268_287.out _; (with_reducible repeat (first | refine blk_drewN ?_ _ | refine blk_drew ?_ | refine blk_alloc ?_ _)); refine blk_far ?_ NB268_287.out _; (with_reducible repeat (first | refine blk_drewN ?_ _ | refine blk_drew ?_ | refine blk_alloc ?_ _)); exact BK268.out⟩
                   have n6_ : Aside0 ((((w70.setCell ⟨gb287, 0, none⟩ (.slice Ao71 t281.length co71)).setCell ⟨gb287, 1, none⟩ (.string t284)).setCell ⟨gb287, 2, none⟩ (.bool t285)).heap[gb287]? = some (.cells #[.slice Ao71 t281.length co71, .string t284, .bool t285] 24 (0, 0))) := ⟨by (with_reducible repeat (first | refine blk_drewN ?_ _ | refine blk_drew ?_ | refine blk_alloc ?_ _)); refine blk_put (cs := #[.slice Ao71 t281.length co71, .string t284, .bool false]) ?_ 2 _ rfl; (with_reducible repeat (first | refine blk_drewN ?_ _ | refine blk_drew ?_ | refine blk_alloc ?_ _)); refine blk_put (cs := #[.slice Ao71 t281.length co71, .string (⟨#[]⟩ : ByteArray), .bool false]) ?_ 1 _ rfl; (with_reducible repeat (first | refine blk_drewN ?_ _ | refine blk_drew ?_ | refine blk_alloc ?_ _)); refine blk_put (cs := #[.slice none 0 0, .string (⟨#[]⟩ : ByteArray), .bool false]) ?_ 0 _ rfl; (with_reducible repeat (first | refine blk_drewN ?_ _ | refine blk_drew ?_ | refine blk_alloc ?_ _)); exact BK287.out⟩
                   have n7_ : Aside0 (Below w.heap.size w (((w70.setCell ⟨gb287, 0, none⟩ (.slice Ao71 t281.length co71)).setCell ⟨gb287, 1, none⟩ (.string t284)).setCell ⟨gb287, 2, none⟩ (.bool t285))) := ⟨by repeat (first | (with_reducible first | exact HB.out | apply below_alloc | apply pw_below_drewN | apply below_drew1 | refine below_set ?_ GE257.out | refine below_set ?_ GE268.out | refine below_set ?_ GE287.out) | exact HB.out)⟩
                   (try clear HO_8)
                   (try clear HO_13)
                   (try clear HO_269000)
                   (try clear HO283)
                   (try clear BK257)
                   (try clear BK268)
                   (try clear BK287)
                   (try clear HB)
                   generalize (((w70.setCell ⟨gb287, 0, none⟩ (.slice Ao71 t281.length co71)).setCell ⟨gb287, 1, none⟩ (.string t284)).setCell ⟨gb287, 2, none⟩ (.bool t285)) = w84 at n0_ n1_ n2_ n3_ n4_ n5_ n6_ n7_ ⊢
                   have HO_8 := n0_
                   have HO_13 := n1_
                   have HO_269000 := n2_
                   have HO283 := n3_
                   have BK257 := n4_
                   have BK268 := n5_
                   have BK287 := n6_
                   have HB := n7_
                   clear n0_ n1_ n2_ n3_ n4_ n5_ n6_ n7_
                   have n0_ := Aside0.mk (Kd.R_drew HO_8.out)
                   have n1_ := Aside0.mk (Kd.B_drew HO_13.out)
                   have n2_ := Aside0.mk (Kd.R_drew HO_269000.out)
                   have n3_ := Aside0.mk (Kd.R_drew HO283.out)
                   have n4_ := Aside0.mk (blk_drew BK257.out)
                   have n5_ := Aside0.mk (blk_drew BK268.out)
                   have n6_ := Aside0.mk (blk_drew BK287.out)
                   have n7_ := Aside0.mk (below_drew1 HB.out)
                   clear HO_8
                   clear HO_13
                   clear HO_269000
                   clear HO283
                   clear BK257
                   clear BK268
                   clear BK287
                   clear HB
                   have HO_8 := n0_
                   have HO_13 := n1_
                   have HO_269000 := n2_
                   have HO283 := n3_
                   have BK257 := n4_
                   have BK268 := n5_
                   have BK287 := n6_
                   have HB := n7_
                   clear n0_ n1_ n2_ n3_ n4_ n5_ n6_ n7_
                   have p291 : 0 ≤ (0 : Int) := (by omega)
                   have q291 : 0 < (t281.length : Int) := od
                   obtain ⟨ad291, e291, hx291_0, hx291_1, hx291_2⟩ := at_T41 (Kd.R_reads' HO283.out).2.2 0 p291 q291
                   cases e291
                   have qi291 : (0 < t281.length) = True := eq_true (by omega)
                   (try rw [show ((0 : Int)).toNat = 0 from rfl] at hx291_0)
                   (try rw [show 0 * 3 = 0 from rfl] at hx291_0)
                   (try rw [Addr.add_zero'] at hx291_0)
                   (try rw [show ((0 : Int)).toNat = 0 from rfl] at hx291_1)
                   (try rw [show 0 * 3 = 0 from rfl] at hx291_1)
                   (try rw [Addr.add_zero'] at hx291_1)
                   (try rw [show ((0 : Int)).toNat = 0 from rfl] at hx291_2)
                   (try rw [show 0 * 3 = 0 from rfl] at hx291_2)
                   (try rw [Addr.add_zero'] at hx291_2)
                   replace p291 := eq_true p291
                   replace q291 := eq_true q291
                   refine start_ (n := 35) (S := fun w' => w'.cell? ⟨gb287, 0, none⟩ = some (.slice (some ad291) t281.length co71) ∧ w'.cell? ⟨gb287, 1, none⟩ = some (.string t284) ∧ w'.cell? ⟨gb287, 2, none⟩ = some (.bool t285) ∧ w'.cell? ⟨gb268, 0, none⟩ = some (.slice Ao12 t262.length co12) ∧ w'.cell? ⟨gb268, 1, none⟩ = some (.string t265) ∧ w'.cell? ⟨gb268, 2, none⟩ = some (.bool t266) ∧ w'.cell? ad291 = some (.string ((rd_T41 t281 0).f0)) ∧ w'.cell? ⟨ad291.block, ad291.off + 1, none⟩ = some (.string ((rd_T41 t281 0).f1)) ∧ w'.cell? ⟨ad291.block, ad291.off + 2, none⟩ = some (.string ((rd_T41 t281 0).f2)) ∧ (convert 39 9 (.slice Ao57 x13_3.length co57)).run Tryd.prog w' = .ok (.string (strOfNums x13_3)) w') (ds := []) #[false, false, false, false, false, false, false, false, false, false, false, false, false, false, false, false, false, false, false, false, false, false, false, false, false, false, false, false, false, false, false, false, false, false, false] (by kernel_rfl) rfl rfl ⟨(blk_cell BK287.out 0).trans rfl, (blk_cell BK287.out 1).trans rfl, (blk_cell BK287.out 2).trans rfl, (blk_cell BK268.out 0).trans rfl, (blk_cell BK268.out 1).trans rfl, (blk_cell BK268.out 2).trans rfl, hx291_0, hx291_1, hx291_2, Kd.B_string (P := Tryd.prog) Tryd.underlying39 Tryd.underlying5 Tryd.underlying9 HO_13.out⟩ (fun hHeld => ?_); refine with_tabW postriderlaw07_HeadBytes.tab18 postriderlaw07_HeadBytes.bits18 (fun HT_ HW_ => ?_)
                   generalize w84.drew = w85 at HO_8 HO_13 HO_269000 HO283 BK257 BK268 BK287 HB hx291_0 hx291_1 hx291_2 hHeld ⊢
                   refine pure_ (i := 0) (N := some 115) (v := ?_) (a' := ?_) #[true, false, false, false, false, false, false, false, false, false, false, false, false, false, false, false, false, false, false, false, false, false, false, false, false, false, false, false, false, false, false, false, false, false, false] rfl rfl (any_of HT_.out (by kernel_rfl)) (fun _ _ _ h => h) (Or.inl ⟨by rfl, ?_⟩) ?_ ?_
                   rotate_left
                   ·intro w'
                    go_simp
                    with_reducible rfl
                   rotate_left
                   ·simp only [Act.put, List.setIfInBounds_toArray, List.set_cons_zero, List.set_cons_succ, i64_w, i32_w]
                    rfl
                   refine pure_ (i := 1) (N := some 116) (v := ?_) (a' := ?_) #[true, true, false, false, false, false, false, false, false, false, false, false, false, false, false, false, false, false, false, false, false, false, false, false, false, false, false, false, false, false, false, false, false, false, false] rfl rfl (any_of HT_.out (by kernel_rfl)) (fun _ _ _ h => h) (Or.inl ⟨by rfl, ?_⟩) ?_ ?_
                   rotate_left
                   ·intro w'
                    go_simp
                    with_reducible rfl
                   rotate_left
                   ·simp only [Act.put, List.setIfInBounds_toArray, List.set_cons_zero, List.set_cons_succ, i64_w, i32_w]
                    rfl
                   refine pure_ (i := 2) (N := some 117) (v := ?_) (a' := ?_) #[true, true, true, false, false, false, false, false, false, false, false, false, false, false, false, false, false, false, false, false, false, false, false, false, false, false, false, false, false, false, false, false, false, false, false] rfl rfl (any_of HT_.out (by kernel_rfl)) (fun _ _ _ h => h) (Or.inl ⟨by rfl, ?_⟩) ?_ ?_
                   rotate_left
                   ·intro w'
                    go_simp
                    with_reducible rfl
                   rotate_left
                   ·simp only [Act.put, List.setIfInBounds_toArray, List.set_cons_zero, List.set_cons_succ, i64_w, i32_w]
                    rfl
                   refine take_ (i := 3) (N := some 118) (v := ?_) (a' := ?_) #[true, true, true, true, false, false, false, false, false, false, false, false, false, false, false, false, false, false, false, false, false, false, false, false, false, false, false, false, false, false, false, false, false, false, false] rfl rfl (take_ofW HT_.out HW_.out (by kernel_rfl)) (fun _ _ _ h => h) (Or.inl ⟨by rfl, ?_⟩) hHeld ?_ ?_
                   rotate_left
                   ·rintro w' ⟨s0, s1, s2, s3, s4, s5, s6, s7, s8, s9⟩
                    go_simp
                    with_reducible rfl
                   rotate_left
                   ·simp only [Act.put, List.setIfInBounds_toArray, List.set_cons_zero, List.set_cons_succ, i64_w, i32_w]
                    rfl
                   refine one_ (i := 4) (N := some 119) #[true, true, true, true, true, false, false, false, false, false, false, false, false, false, false, false, false, false, false, false, false, false, false, false, false, false, false, false, false, false, false, false, false, false, false] rfl rfl (one_of HT_.out (by kernel_rfl)) (by decide) (fun K hK => ?_)
                   refine goes_ Tryd.func23 (by kernel_rfl) rfl #[.agg #[.slice (some ad291) t281.length co71, .string t284, .bool t285]] (by rfl) rfl rfl ml ?_
                   with_reducible refine (head_Message_May.calls k3 _ _ t281 t284 t285 true _ ?side1 ?side2 ?side3 A76.out).mono ?_
                   (case side1 => repeat (first | exact (Kd.R_reads' HO283.out).2.2 | (with_reducible refine Kd.C_alloc ?_ _) | (with_reducible refine Kd.C_drewN ?_ _) | (with_reducible refine Kd.C_drew ?_)))
                   (case side2 => exact (Kd.R_reads' HO283.out).2.1)
                   (case side3 => exact Glob.below HG.out bl)
                   rintro e w86 ⟨rfl, hb⟩
                   have HS6_ := (hb.cell (World.block_lt_of_cell? _ _ (hHeld.2.2.2.2.2.2.1))).trans (hHeld.2.2.2.2.2.2.1)
                   have HS7_ := (hb.cell (World.block_lt_of_cell? _ _ (hHeld.2.2.2.2.2.2.2.1))).trans (hHeld.2.2.2.2.2.2.2.1)
                   have HS8_ := (hb.cell (World.block_lt_of_cell? _ _ (hHeld.2.2.2.2.2.2.2.2.1))).trans (hHeld.2.2.2.2.2.2.2.2.1)
                   refine ⟨_, rfl, ?_⟩
                   have n0_ := Aside0.mk (Kd.R_below (kr HO_8.out) hb)
                   have n1_ := Aside0.mk (Kd.B_below (by (with_reducible repeat (first | apply Kd.B_alloc | apply Kd.B_drewN | apply Kd.B_drew)); exact HO_13.out) hb)
                   have n2_ := Aside0.mk (Kd.R_below (kr HO_269000.out) hb)
                   have n3_ := Aside0.mk (Kd.R_below (kr HO283.out) hb)
                   have n4_ := Aside0.mk (kb BK257.out hb)
                   have n5_ := Aside0.mk (kb BK268.out hb)
                   have n6_ := Aside0.mk (kb BK287.out hb)
                   have n7_ := Aside0.mk (below_step bl hb)
                   clear HO_8
                   clear HO_13
                   clear HO_269000
                   clear HO283
                   clear BK257
                   clear BK268
                   clear BK287
                   clear HB
                   have HO_8 := n0_
                   have HO_13 := n1_
                   have HO_269000 := n2_
                   have HO283 := n3_
                   have BK257 := n4_
                   have BK268 := n5_
                   have BK287 := n6_
                   have HB := n7_
                   clear n0_ n1_ n2_ n3_ n4_ n5_ n6_ n7_
                   (try clear hb)
                   (try clear hb2)
                   (try clear hk)
                   (try clear hi)
                   refine hK.out _ _ ⟨(blk_cell BK287.out 0).trans rfl, (blk_cell BK287.out 1).trans rfl, (blk_cell BK287.out 2).trans rfl, (blk_cell BK268.out 0).trans rfl, (blk_cell BK268.out 1).trans rfl, (blk_cell BK268.out 2).trans rfl, HS6_, HS7_, HS8_, Kd.B_string (P := Tryd.prog) Tryd.underlying39 Tryd.underlying5 Tryd.underlying9 HO_13.out⟩ (fun hHeld => ?_)
                   clear hK K
                   refine norm_ (a' := ?_) ?_ ?_
                   rotate_left
                   ·show Act.put _ (some 119) _ = _
                    simp only [Act.put, List.setIfInBounds_toArray, List.set_cons_zero, List.set_cons_succ, i64_w, i32_w]
                    rfl
                   refine pure_ (i := 5) (N := some 120) (v := ?_) (a' := ?_) #[true, true, true, true, true, true, false, false, false, false, false, false, false, false, false, false, false, false, false, false, false, false, false, false, false, false, false, false, false, false, false, false, false, false, false] rfl rfl (any_of HT_.out (by kernel_rfl)) (fun _ _ _ h => h) (Or.inl ⟨by rfl, ?_⟩) ?_ ?_
                   rotate_left
                   ·intro w'
                    go_simp
                    with_reducible rfl
                   rotate_left
                   ·simp only [Act.put, List.setIfInBounds_toArray, List.set_cons_zero, List.set_cons_succ, i64_w, i32_w]
                    rfl
                   refine pure_ (i := 6) (N := some 121) (v := ?_) (a' := ?_) #[true, true, true, true, true, true, true, false, false, false, false, false, false, false, false, false, false, false, false, false, false, false, false, false, false, false, false, false, false, false, false, false, false, false, false] rfl rfl (any_of HT_.out (by kernel_rfl)) (fun _ _ _ h => h) (Or.inl ⟨by rfl, ?_⟩) ?_ ?_
                   rotate_left
                   ·intro w'
                    go_simp
                    with_reducible rfl
                   rotate_left
                   ·simp only [Act.put, List.setIfInBounds_toArray, List.set_cons_zero, List.set_cons_succ, i64_w, i32_w]
                    rfl
                   refine pure_ (i := 7) (N := some 122) (v := ?_) (a' := ?_) #[true, true, true, true, true, true, true, true, false, false, false, false, false, false, false, false, false, false, false, false, false, false, false, false, false, false, false, false, false, false, false, false, false, false, false] rfl rfl (any_of HT_.out (by kernel_rfl)) (fun _ _ _ h => h) (Or.inl ⟨by rfl, ?_⟩) ?_ ?_
                   rotate_left
                   ·intro w'
                    go_simp
                    with_reducible rfl
                   rotate_left
                   ·simp only [Act.put, List.setIfInBounds_toArray, List.set_cons_zero, List.set_cons_succ, i64_w, i32_w]
                    rfl
                   refine pure_ (i := 10) (N := some 125) (v := ?_) (a' := ?_) #[true, true, true, true, true, true, true, true, false, false, true, false, false, false, false, false, false, false, false, false, false, false, false, false, false, false, false, false, false, false, false, false, false, false, false] rfl rfl (any_of HT_.out (by kernel_rfl)) (fun _ _ _ h => h) (Or.inl ⟨by rfl, ?_⟩) ?_ ?_
                   rotate_left
                   ·intro w'
                    go_simp
                    with_reducible rfl
                   rotate_left
                   ·simp only [Act.put, List.setIfInBounds_toArray, List.set_cons_zero, List.set_cons_succ, i64_w, i32_w]
                    rfl
                   refine take_ (i := 8) (N := some 123) (v := ?_) (a' := ?_) #[true, true, true, true, true, true, true, true, true, false, true, false, false, false, false, false, false, false, false, false, false, false, false, false, false, false, false, false, false, false, false, false, false, false, false] rfl rfl (take_ofW HT_.out HW_.out (by kernel_rfl)) (fun _ _ _ h => h) (Or.inl ⟨by rfl, ?_⟩) hHeld ?_ ?_
                   rotate_left
                   ·rintro w' ⟨s0, s1, s2, s3, s4, s5, s6, s7, s8, s9⟩
                    go_simp
                    with_reducible rfl
                   rotate_left
                   ·simp only [Act.put, List.setIfInBounds_toArray, List.set_cons_zero, List.set_cons_succ, i64_w, i32_w]
                    rfl
                   refine one_ (i := 9) (N := some 124) #[true, true, true, true, true, true, true, true, true, true, true, false, false, false, false, false, false, false, false, false, false, false, false, false, false, false, false, false, false, false, false, false, false, false, false] rfl rfl (one_of HT_.out (by kernel_rfl)) (by decide) (fun K hK => ?_)
                   refine goes_ Tryd.func25 (by kernel_rfl) rfl #[.agg #[.slice (some ad291) t281.length co71, .string t284, .bool t285]] (by rfl) rfl rfl ml ?_
                   with_reducible refine (head_Message_Text.calls _ _ t281 t284 t285 t289 _ ?side1 ?side2 A78.out).mono ?_
                   (case side1 => repeat (first | exact (Kd.R_reads' HO283.out).2.2 | (with_reducible refine Kd.C_alloc ?_ _) | (with_reducible refine Kd.C_drewN ?_ _) | (with_reducible refine Kd.C_drew ?_)))
                   (case side2 => exact (Kd.R_reads' HO283.out).2.1)
                   rintro e w87 ⟨rfl, hb⟩
                   have HS6_ := (hb.cell (World.block_lt_of_cell? _ _ (hHeld.2.2.2.2.2.2.1))).trans (hHeld.2.2.2.2.2.2.1)
                   have HS7_ := (hb.cell (World.block_lt_of_cell? _ _ (hHeld.2.2.2.2.2.2.2.1))).trans (hHeld.2.2.2.2.2.2.2.1)
                   have HS8_ := (hb.cell (World.block_lt_of_cell? _ _ (hHeld.2.2.2.2.2.2.2.2.1))).trans (hHeld.2.2.2.2.2.2.2.2.1)
                   refine ⟨_, rfl, ?_⟩
                   have n0_ := Aside0.mk (Kd.R_below (kr HO_8.out) hb)
                   have n1_ := Aside0.mk (Kd.B_below (by (with_reducible repeat (first | apply Kd.B_alloc | apply Kd.B_drewN | apply Kd.B_drew)); exact HO_13.out) hb)
                   have n2_ := Aside0.mk (Kd.R_below (kr HO_269000.out) hb)
                   have n3_ := Aside0.mk (Kd.R_below (kr HO283.out) hb)
                   have n4_ := Aside0.mk (kb BK257.out hb)
                   have n5_ := Aside0.mk (kb BK268.out hb)
                   have n6_ := Aside0.mk (kb BK287.out hb)
                   have n7_ := Aside0.mk (below_step bl hb)
                   clear HO_8
                   clear HO_13
                   clear HO_269000
                   clear HO283
                   clear BK257
                   clear BK268
                   clear BK287
                   clear HB
                   have HO_8 := n0_
                   have HO_13 := n1_
                   have HO_269000 := n2_
                   have HO283 := n3_
                   have BK257 := n4_
                   have BK268 := n5_
                   have BK287 := n6_
                   have HB := n7_
                   clear n0_ n1_ n2_ n3_ n4_ n5_ n6_ n7_
                   (try clear hb)
                   (try clear hb2)
                   (try clear hk)
                   (try clear hi)
                   refine hK.out _ _ ⟨(blk_cell BK287.out 0).trans rfl, (blk_cell BK287.out 1).trans rfl, (blk_cell BK287.out 2).trans rfl, (blk_cell BK268.out 0).trans rfl, (blk_cell BK268.out 1).trans rfl, (blk_cell BK268.out 2).trans rfl, HS6_, HS7_, HS8_, Kd.B_string (P := Tryd.prog) Tryd.underlying39 Tryd.underlying5 Tryd.underlying9 HO_13.out⟩ (fun hHeld => ?_)
                   clear hK K
                   refine norm_ (a' := ?_) ?_ ?_
                   rotate_left
                   ·show Act.put _ (some 124) _ = _
                    simp only [Act.put, List.setIfInBounds_toArray, List.set_cons_zero, List.set_cons_succ, i64_w, i32_w]
                    rfl
                   refine one_ (i := 11) (N := some 126) #[true, true, true, true, true, true, true, true, true, true, true, true, false, false, false, false, false, false, false, false, false, false, false, false, false, false, false, false, false, false, false, false, false, false, false] rfl rfl (one_of HT_.out (by kernel_rfl)) (by decide) (fun K hK => ?_)
                   refine goes_ Tryd.func16 (by kernel_rfl) rfl #[.string t289, .string t258] (by rfl) rfl rfl ml ?_
                   with_reducible refine (strings_HasSuffix.calls t289 t258 true _ A79.out).mono ?_
                   rintro e w' ⟨rfl, ⟨nd, rfl⟩⟩
                   refine ⟨_, rfl, ?_⟩
                   refine hK.out _ _ ⟨(blk_cell BK287.out 0).trans rfl, (blk_cell BK287.out 1).trans rfl, (blk_cell BK287.out 2).trans rfl, (blk_cell BK268.out 0).trans rfl, (blk_cell BK268.out 1).trans rfl, (blk_cell BK268.out 2).trans rfl, hHeld.2.2.2.2.2.2.1, hHeld.2.2.2.2.2.2.2.1, hHeld.2.2.2.2.2.2.2.2.1, Kd.B_string (P := Tryd.prog) Tryd.underlying39 Tryd.underlying5 Tryd.underlying9 HO_13.out⟩ (fun hHeld => ?_)
                   clear hK K
                   refine norm_ (a' := ?_) ?_ ?_
                   rotate_left
                   ·show Act.put _ (some 126) _ = _
                    simp only [Act.put, List.setIfInBounds_toArray, List.set_cons_zero, List.set_cons_succ, i64_w, i32_w]
                    rfl
                   refine pure_ (i := 12) (N := some 127) (v := ?_) (a' := ?_) #[true, true, true, true, true, true, true, true, true, true, true, true, true, false, false, false, false, false, false, false, false, false, false, false, false, false, false, false, false, false, false, false, false, false, false] rfl rfl (any_of HT_.out (by kernel_rfl)) (fun _ _ _ h => h) (Or.inl ⟨by rfl, ?_⟩) ?_ ?_
                   rotate_left
                   ·intro w'
                    go_simp
                    with_reducible rfl
                   rotate_left
                   ·simp only [Act.put, List.setIfInBounds_toArray, List.set_cons_zero, List.set_cons_succ, i64_w, i32_w]
                    rfl
                   refine pure_ (i := 13) (N := some 128) (v := ?_) (a' := ?_) #[true, true, true, true, true, true, true, true, true, true, true, true, true, true, false, false, false, false, false, false, false, false, false, false, false, false, false, false, false, false, false, false, false, false, false] rfl rfl (any_of HT_.out (by kernel_rfl)) (fun _ _ _ h => h) (Or.inl ⟨by rfl, ?_⟩) ?_ ?_
                   rotate_left
                   ·intro w'
                    go_simp
                    with_reducible rfl
                   rotate_left
                   ·simp only [Act.put, List.setIfInBounds_toArray, List.set_cons_zero, List.set_cons_succ, i64_w, i32_w]
                    rfl
                   refine pure_ (i := 14) (N := some 129) (v := ?_) (a' := ?_) #[true, true, true, true, true, true, true, true, true, true, true, true, true, true, true, false, false, false, false, false, false, false, false, false, false, false, false, false, false, false, false, false, false, false, false] rfl rfl (any_of HT_.out (by kernel_rfl)) (fun _ _ _ h => h) (Or.inl ⟨by rfl, ?_⟩) ?_ ?_
                   rotate_left
                   ·intro w'
                    go_simp
                    with_reducible rfl
                   rotate_left
                   ·simp only [Act.put, List.setIfInBounds_toArray, List.set_cons_zero, List.set_cons_succ, i64_w, i32_w]
                    rfl
                   refine pure_ (i := 15) (N := some 130) (v := ?_) (a' := ?_) #[true, true, true, true, true, true, true, true, true, true, true, true, true, true, true, true, false, false, false, false, false, false, false, false, false, false, false, false, false, false, false, false, false, false, false] rfl rfl (any_of HT_.out (by kernel_rfl)) (fun _ _ _ h => h) (Or.inl ⟨by rfl, ?_⟩) ?_ ?_
                   rotate_left
                   ·intro w'
                    go_simp
                    with_reducible rfl
                   rotate_left
                   ·simp only [Act.put, List.setIfInBounds_toArray, List.set_cons_zero, List.set_cons_succ, i64_w, i32_w]
                    rfl
                   refine pure_ (i := 18) (N := some 133) (v := ?_) (a' := ?_) #[true, true, true, true, true, true, true, true, true, true, true, true, true, true, true, true, false, false, true, false, false, false, false, false, false, false, false, false, false, false, false, false, false, false, false] rfl rfl (any_of HT_.out (by kernel_rfl)) (fun _ _ _ h => h) (Or.inl ⟨by rfl, ?_⟩) ?_ ?_
                   rotate_left
                   ·intro w'
                    go_simp
                    with_reducible rfl
                   rotate_left
                   ·simp only [Act.put, List.setIfInBounds_toArray, List.set_cons_zero, List.set_cons_succ, i64_w, i32_w]
                    rfl
                   refine take_ (i := 16) (N := some 131) (v := ?_) (a' := ?_) #[true, true, true, true, true, true, true, true, true, true, true, true, true, true, true, true, true, false, true, false, false, false, false, false, false, false, false, false, false, false, false, false, false, false, false] rfl rfl (take_ofW HT_.out HW_.out (by kernel_rfl)) (fun _ _ _ h => h) (Or.inl ⟨by rfl, ?_⟩) hHeld ?_ ?_
                   rotate_left
                   ·rintro w' ⟨s0, s1, s2, s3, s4, s5, s6, s7, s8, s9⟩
                    go_simp
                    with_reducible rfl
                   rotate_left
                   ·simp only [Act.put, List.setIfInBounds_toArray, List.set_cons_zero, List.set_cons_succ, i64_w, i32_w]
                    rfl
                   refine pure_ (i := 17) (N := some 132) (v := ?_) (a' := ?_) #[true, true, true, true, true, true, true, true, true, true, true, true, true, true, true, true, true, true, true, false, false, false, false, false, false, false, false, false, false, false, false, false, false, false, false] rfl rfl (any_of HT_.out (by kernel_rfl)) (fun _ _ _ h => h) (Or.inl ⟨by rfl, ?_⟩) ?_ ?_
                   rotate_left
                   ·intro w'
                    go_simp
                    with_reducible rfl
                   rotate_left
                   ·simp only [Act.put, List.setIfInBounds_toArray, List.set_cons_zero, List.set_cons_succ, i64_w, i32_w]
                    rfl
                   refine take_ (i := 19) (N := some 134) (v := ?_) (a' := ?_) #[true, true, true, true, true, true, true, true, true, true, true, true, true, true, true, true, true, true, true, true, false, false, false, false, false, false, false, false, false, false, false, false, false, false, false] rfl rfl (take_ofW HT_.out HW_.out (by kernel_rfl)) (fun _ _ _ h => h) (Or.inl ⟨by rfl, ?_⟩) hHeld ?_ ?_
                   rotate_left
                   ·rintro w' ⟨s0, s1, s2, s3, s4, s5, s6, s7, s8, s9⟩
                    go_simp
                    with_reducible rfl
                   rotate_left
                   ·simp only [Act.put, List.setIfInBounds_toArray, List.set_cons_zero, List.set_cons_succ, i64_w, i32_w]
                    rfl
                   refine pure_ (i := 20) (N := some 135) (v := ?_) (a' := ?_) #[true, true, true, true, true, true, true, true, true, true, true, true, true, true, true, true, true, true, true, true, true, false, false, false, false, false, false, false, false, false, false, false, false, false, false] rfl rfl (any_of HT_.out (by kernel_rfl)) (fun _ _ _ h => h) (Or.inl ⟨by rfl, ?_⟩) ?_ ?_
                   rotate_left
                   ·intro w'
                    go_simp
                    with_reducible rfl
                   rotate_left
                   ·simp only [Act.put, List.setIfInBounds_toArray, List.set_cons_zero, List.set_cons_succ, i64_w, i32_w]
                    rfl
                   refine pure_ (i := 21) (N := some 136) (v := ?_) (a' := ?_) #[true, true, true, true, true, true, true, true, true, true, true, true, true, true, true, true, true, true, true, true, true, true, false, false, false, false, false, false, false, false, false, false, false, false, false] rfl rfl (any_of HT_.out (by kernel_rfl)) (fun _ _ _ h => h) (Or.inl ⟨by rfl, ?_⟩) ?_ ?_
                   rotate_left
                   ·intro w'
                    go_simp
                    with_reducible rfl
                   rotate_left
                   ·simp only [Act.put, List.setIfInBounds_toArray, List.set_cons_zero, List.set_cons_succ, i64_w, i32_w]
                    rfl
                   refine pure_ (i := 22) (N := some 137) (v := ?_) (a' := ?_) #[true, true, true, true, true, true, true, true, true, true, true, true, true, true, true, true, true, true, true, true, true, true, true, false, false, false, false, false, false, false, false, false, false, false, false] rfl rfl (any_of HT_.out (by kernel_rfl)) (fun _ _ _ h => h) (Or.inl ⟨by rfl, ?_⟩) ?_ ?_
                   rotate_left
                   ·intro w'
                    go_simp
                    with_reducible rfl
                   rotate_left
                   ·simp only [Act.put, List.setIfInBounds_toArray, List.set_cons_zero, List.set_cons_succ, i64_w, i32_w]
                    rfl
                   refine pure_ (i := 23) (N := some 138) (v := ?_) (a' := ?_) #[true, true, true, true, true, true, true, true, true, true, true, true, true, true, true, true, true, true, true, true, true, true, true, true, false, false, false, false, false, false, false, false, false, false, false] rfl rfl (any_of HT_.out (by kernel_rfl)) (fun _ _ _ h => h) (Or.inl ⟨by rfl, ?_⟩) ?_ ?_
                   rotate_left
                   ·intro w'
                    go_simp
                    with_reducible rfl
                   rotate_left
                   ·simp only [Act.put, List.setIfInBounds_toArray, List.set_cons_zero, List.set_cons_succ, i64_w, i32_w]
                    rfl
                   refine pure_ (i := 24) (N := some 139) (v := ?_) (a' := ?_) #[true, true, true, true, true, true, true, true, true, true, true, true, true, true, true, true, true, true, true, true, true, true, true, true, true, false, false, false, false, false, false, false, false, false, false] rfl rfl (any_of HT_.out (by kernel_rfl)) (fun _ _ _ h => h) (Or.inl ⟨by rfl, ?_⟩) ?_ ?_
                   rotate_left
                   ·intro w'
                    go_simp
                    with_reducible rfl
                   rotate_left
                   ·simp only [Act.put, List.setIfInBounds_toArray, List.set_cons_zero, List.set_cons_succ, i64_w, i32_w]
                    rfl
                   refine pure_ (i := 25) (N := some 140) (v := ?_) (a' := ?_) #[true, true, true, true, true, true, true, true, true, true, true, true, true, true, true, true, true, true, true, true, true, true, true, true, true, true, false, false, false, false, false, false, false, false, false] rfl rfl (any_of HT_.out (by kernel_rfl)) (fun _ _ _ h => h) (Or.inl ⟨by rfl, ?_⟩) ?_ ?_
                   rotate_left
                   ·intro w'
                    go_simp
                    with_reducible rfl
                   rotate_left
                   ·simp only [Act.put, List.setIfInBounds_toArray, List.set_cons_zero, List.set_cons_succ, i64_w, i32_w]
                    rfl
                   refine pure_ (i := 30) (N := some 145) (v := ?_) (a' := ?_) #[true, true, true, true, true, true, true, true, true, true, true, true, true, true, true, true, true, true, true, true, true, true, true, true, true, true, false, false, false, false, true, false, false, false, false] rfl rfl (any_of HT_.out (by kernel_rfl)) (fun _ _ _ h => h) (Or.inl ⟨by rfl, ?_⟩) ?_ ?_
                   rotate_left
                   ·intro w'
                    go_simp
                    with_reducible rfl
                   rotate_left
                   ·simp only [Act.put, List.setIfInBounds_toArray, List.set_cons_zero, List.set_cons_succ, i64_w, i32_w]
                    rfl
                   refine take_ (i := 26) (N := some 141) (v := ?_) (a' := ?_) #[true, true, true, true, true, true, true, true, true, true, true, true, true, true, true, true, true, true, true, true, true, true, true, true, true, true, true, false, false, false, true, false, false, false, false] rfl rfl (take_ofW HT_.out HW_.out (by kernel_rfl)) (fun _ _ _ h => h) (Or.inl ⟨by rfl, ?_⟩) hHeld ?_ ?_
                   rotate_left
                   ·rintro w' ⟨s0, s1, s2, s3, s4, s5, s6, s7, s8, s9⟩
                    go_simp
                    with_reducible rfl
                   rotate_left
                   ·simp only [Act.put, List.setIfInBounds_toArray, List.set_cons_zero, List.set_cons_succ, i64_w, i32_w]
                    rfl
                   refine pure_ (i := 27) (N := some 142) (v := ?_) (a' := ?_) #[true, true, true, true, true, true, true, true, true, true, true, true, true, true, true, true, true, true, true, true, true, true, true, true, true, true, true, true, false, false, true, false, false, false, false] rfl rfl (any_of HT_.out (by kernel_rfl)) (fun _ _ _ h => h) (Or.inl ⟨by rfl, ?_⟩) ?_ ?_
                   rotate_left
                   ·intro w'
                    go_simp
                    with_reducible rfl
                   rotate_left
                   ·simp only [Act.put, List.setIfInBounds_toArray, List.set_cons_zero, List.set_cons_succ, i64_w, i32_w]
                    rfl
                   refine pure_ (i := 28) (N := some 143) (v := ?_) (a' := ?_) #[true, true, true, true, true, true, true, true, true, true, true, true, true, true, true, true, true, true, true, true, true, true, true, true, true, true, true, true, true, false, true, false, false, false, false] rfl rfl (any_of HT_.out (by kernel_rfl)) (fun _ _ _ h => h) (Or.inl ⟨by rfl, ?_⟩) ?_ ?_
                   rotate_left
                   ·intro w'
                    go_simp
                    with_reducible rfl
                   rotate_left
                   ·simp only [Act.put, List.setIfInBounds_toArray, List.set_cons_zero, List.set_cons_succ, i64_w, i32_w]
                    rfl
                   refine take_ (i := 29) (N := some 144) (v := ?_) (a' := ?_) #[true, true, true, true, true, true, true, true, true, true, true, true, true, true, true, true, true, true, true, true, true, true, true, true, true, true, true, true, true, true, true, false, false, false, false] rfl rfl (take_ofW HT_.out HW_.out (by kernel_rfl)) (fun _ _ _ h => h) (Or.inl ⟨by rfl, ?_⟩) hHeld ?_ ?_
                   rotate_left
                   ·rintro w' ⟨s0, s1, s2, s3, s4, s5, s6, s7, s8, s9⟩
                    go_simp
                    with_reducible rfl
                   rotate_left
                   ·simp only [Act.put, List.setIfInBounds_toArray, List.set_cons_zero, List.set_cons_succ, i64_w, i32_w]
                    rfl
                   refine take_ (i := 31) (N := some 146) (v := ?_) (a' := ?_) #[true, true, true, true, true, true, true, true, true, true, true, true, true, true, true, true, true, true, true, true, true, true, true, true, true, true, true, true, true, true, true, true, false, false, false] rfl rfl (take_ofW HT_.out HW_.out (by kernel_rfl)) (fun _ _ _ h => h) (Or.inl ⟨by rfl, ?_⟩) hHeld ?_ ?_
                   rotate_left
                   ·rintro w' ⟨s0, s1, s2, s3, s4, s5, s6, s7, s8, s9⟩
                    go_simp
                    with_reducible rfl
                   rotate_left
                   ·simp only [Act.put, List.setIfInBounds_toArray, List.set_cons_zero, List.set_cons_succ, i64_w, i32_w]
                    rfl
                   refine one_ (i := 32) (N := some 147) #[true, true, true, true, true, true, true, true, true, true, true, true, true, true, true, true, true, true, true, true, true, true, true, true, true, true, true, true, true, true, true, true, true, false, false] rfl rfl (one_of HT_.out (by kernel_rfl)) (by decide) (fun K hK => ?_)
                   refine goes_ Tryd.func15 (by kernel_rfl) rfl #[.string (strOfNums x13_3), .string (⟨#[32]⟩ : ByteArray)] (by rfl) rfl rfl ml ?_
                   with_reducible refine (strings_Trim.calls (strOfNums x13_3) (⟨#[32]⟩ : ByteArray) t292 _ A83.out).mono ?_
                   rintro e w88 ⟨rfl, hb⟩
                   have HS6_ := (hb.cell (World.block_lt_of_cell? _ _ (hHeld.2.2.2.2.2.2.1))).trans (hHeld.2.2.2.2.2.2.1)
                   have HS7_ := (hb.cell (World.block_lt_of_cell? _ _ (hHeld.2.2.2.2.2.2.2.1))).trans (hHeld.2.2.2.2.2.2.2.1)
                   have HS8_ := (hb.cell (World.block_lt_of_cell? _ _ (hHeld.2.2.2.2.2.2.2.2.1))).trans (hHeld.2.2.2.2.2.2.2.2.1)
                   refine ⟨_, rfl, ?_⟩
                   have n0_ := Aside0.mk (Kd.R_below (kr HO_8.out) hb)
                   have n1_ := Aside0.mk (Kd.B_below (by (with_reducible repeat (first | apply Kd.B_alloc | apply Kd.B_drewN | apply Kd.B_drew)); exact HO_13.out) hb)
                   have n2_ := Aside0.mk (Kd.R_below (kr HO_269000.out) hb)
                   have n3_ := Aside0.mk (Kd.R_below (kr HO283.out) hb)
                   have n4_ := Aside0.mk (kb BK257.out hb)
                   have n5_ := Aside0.mk (kb BK268.out hb)
                   have n6_ := Aside0.mk (kb BK287.out hb)
                   have n7_ := Aside0.mk (below_step bl hb)
                   clear HO_8
                   clear HO_13
                   clear HO_269000
                   clear HO283
                   clear BK257
                   clear BK268
                   clear BK287
                   clear HB
                   have HO_8 := n0_
                   have HO_13 := n1_
                   have HO_269000 := n2_
                   have HO283 := n3_
                   have BK257 := n4_
                   have BK268 := n5_
                   have BK287 := n6_
                   have HB := n7_
                   clear n0_ n1_ n2_ n3_ n4_ n5_ n6_ n7_
                   (try clear hb)
                   (try clear hb2)
                   (try clear hk)
                   (try clear hi)
                   refine hK.out _ _ ⟨(blk_cell BK287.out 0).trans rfl, (blk_cell BK287.out 1).trans rfl, (blk_cell BK287.out 2).trans rfl, (blk_cell BK268.out 0).trans rfl, (blk_cell BK268.out 1).trans rfl, (blk_cell BK268.out 2).trans rfl, HS6_, HS7_, HS8_, Kd.B_string (P := Tryd.prog) Tryd.underlying39 Tryd.underlying5 Tryd.underlying9 HO_13.out⟩ (fun hHeld => ?_)
                   clear hK K
                   refine norm_ (a' := ?_) ?_ ?_
                   rotate_left
                   ·show Act.put _ (some 147) _ = _
                    simp only [Act.put, List.setIfInBounds_toArray, List.set_cons_zero, List.set_cons_succ, i64_w, i32_w]
                    rfl
                   refine pure_ (i := 33) (N := some 148) (v := ?_) (a' := ?_) #[true, true, true, true, true, true, true, true, true, true, true, true, true, true, true, true, true, true, true, true, true, true, true, true, true, true, true, true, true, true, true, true, true, true, false] rfl rfl (any_of HT_.out (by kernel_rfl)) (fun _ _ _ h => h) (Or.inl ⟨by rfl, ?_⟩) ?_ ?_
                   rotate_left
                   ·intro w'
                    go_simp
                    with_reducible rfl
                   rotate_left
                   ·simp only [Act.put, List.setIfInBounds_toArray, List.set_cons_zero, List.set_cons_succ, i64_w, i32_w]
                    rfl
                   refine pure_ (i := 34) (N := some 149) (v := ?_) (a' := ?_) #[true, true, true, true, true, true, true, true, true, true, true, true, true, true, true, true, true, true, true, true, true, true, true, true, true, true, true, true, true, true, true, true, true, true, true] rfl rfl (any_of HT_.out (by kernel_rfl)) (fun _ _ _ h => h) (Or.inl ⟨by rfl, ?_⟩) ?_ ?_
                   rotate_left
                   ·intro w'
                    go_simp
                    with_reducible rfl
                   rotate_left
                   ·simp only [Act.put, List.setIfInBounds_toArray, List.set_cons_zero, List.set_cons_succ, i64_w, i32_w]
                    rfl
                   refine done_ (done_of HT_.out (by kernel_rfl)) ?_
                   try go_wp2
                   go_meet
                   case rel => exact ⟨_, ((((rd_T41 t281 0).f1).toList != t292.toList)), (by first | rfl | (simp; done) | (simp [*]; done)), H', ⟨by have := HJ5.out; have := HK2.out; have := HK3.out; first | omega | exact Nat.le_refl _⟩, ⟨by (try simp only [hl13_3]); (with_reducible repeat (first | apply Kd.R_alloc | apply Kd.R_drewN | apply Kd.R_drew)); exact HO_8.out⟩, ⟨by (try simp only [hl13_3]); (with_reducible repeat (first | apply Kd.B_alloc | apply Kd.B_drewN | apply Kd.B_drew)); exact HO_13.out⟩, ⟨by (try simp only [hl13_3]); (with_reducible repeat (first | apply Kd.R_alloc | apply Kd.R_drewN | apply Kd.R_drew)); exact HO_269000.out⟩, ⟨by (try simp only [hl13_3]); (with_reducible repeat (first | apply Kd.R_alloc | apply Kd.R_drewN | apply Kd.R_drew)); exact HO283.out⟩, ⟨by (try simp only [hl13_3]); (with_reducible repeat (first | refine blk_drewN ?_ _ | refine blk_drew ?_ | refine blk_alloc ?_ _)); exact BK257.out⟩, ⟨by (try simp only [hl13_3]); (with_reducible repeat (first | refine blk_drewN ?_ _ | refine blk_drew ?_ | refine blk_alloc ?_ _)); exact BK268.out⟩, ⟨by (try simp only [hl13_3]); (with_reducible repeat (first | refine blk_drewN ?_ _ | refine blk_drew ?_ | refine blk_alloc ?_ _)); exact BK287.out⟩, ⟨by repeat (first | (with_reducible first | exact HB.out | apply below_alloc | apply pw_below_drewN | apply below_drew1 | refine below_set ?_ GE257.out | refine below_set ?_ GE268.out | refine below_set ?_ GE287.out) | exact HB.out)⟩⟩
                  ·rw [if_neg c82] at H
                   exact absurd H (by simp)
                 ·rw [if_neg c81] at H
                  have c81b0 : ((t281.length : Int) == (wrap64 ((t262.length : Int) + 1))) = false := beq_eq_false_iff_ne.mpr c81
                  have c81b1 : ((t281.length : Int) != (wrap64 ((t262.length : Int) + 1))) = true := bne_iff_ne.mpr c81
                  exact absurd (H.trans (congrArg some HT_r.out)) (by cases k3 <;> simp [postriderlaw07_HeadBytes.j3])
                ·replace c80 := Bool.eq_false_iff.mpr c80
                 subst c80
                 have H1 : (postriderlaw07_HeadBytes.j3 k3 t258 t259 x13_3 true a2_0 a2_1 a2_2 t262 t265 t266) = some r := by rw [if_neg (show ¬ (false = true) by decide)] at H; exact H
                 clear H
                 have H := H1
                 clear H1
                 exact absurd (H.trans (congrArg some HT_r.out)) (by cases k3 <;> simp [postriderlaw07_HeadBytes.j3])
               ·replace c77 := Bool.eq_false_iff.mpr c77
                subst c77
                have H1 : (postriderlaw07_HeadBytes.j3 k3 t258 t259 x13_3 true a2_0 a2_1 a2_2 t262 t265 t266) = some r := by rw [if_neg (show ¬ (false = true) by decide)] at H; exact H
                clear H
                have H := H1
                clear H1
                exact absurd (H.trans (congrArg some HT_r.out)) (by cases k3 <;> simp [postriderlaw07_HeadBytes.j3])
              ·rw [if_neg c75] at H
               have c75b0 : (t286 == 0) = false := beq_eq_false_iff_ne.mpr c75
               have c75b1 : (t286 != 0) = true := bne_iff_ne.mpr c75
               (first | rw [c75b0] | (simp only [i64_w, i32_w]; rw [c75b0]) | skip)
               exact absurd (H.trans (congrArg some HT_r.out)) (by cases k3 <;> simp [postriderlaw07_HeadBytes.j3])
             case rest => as_aux_lemma =>
              clear HC65
              try clear c1
              try clear c2
              try clear p2
              try clear q2
              try clear hx2
              try clear qi2
              try clear c3
              try clear c5
              try clear c6
              try clear p6
              try clear q6
              try clear hx6
              try clear hcv6
              try clear hf6
              try clear c7
              try clear c8
              try clear c15
              try clear c16
              try clear c23
              try clear c25
              try clear p27
              try clear q27
              try clear hx27
              try clear p29
              try clear q29
              try clear hx29
              try clear qi29
              try clear c31
              try clear c58
              try clear c58b0
              try clear c59
              try clear c60
              try clear p61
              try clear q61
              try clear hx61
              try clear hf61
              try clear p64
              try clear c66
              try clear hcv68
              try clear c72
              try clear c73
              try clear c75
              try clear c75b0
              try clear c75b1
              try clear c77
              try clear c80
              try clear c81
              try clear c81b0
              try clear c81b1
              try clear c82
              try clear c82b0
              try clear c82b1
              try clear hcz67_0
              try clear hcz67_1
              try clear hcz67_2
              try clear hcz74_0
              try clear hcz74_1
              try clear hcz74_2
              try clear hfz67_0
              try clear hfz67_1
              try clear hfz67_2
              try clear hfz74_0
              try clear hfz74_1
              try clear hfz74_2
              try clear hx279_0
              try clear hx291_0
              try clear hx291_1
              try clear hx291_2
              try clear hx61_0
              try clear p279
              try clear p291
              try clear p61
              try clear q279
              try clear q291
              try clear q61
              obtain ⟨kq, x149_64, rfl, HA, HJ64, HO_8, HO_13, HO_269000, HO_288000, BK257, BK268, BK287, HB⟩ := hcut
              cases kq with
              | zero => exact absurd HA.out (by simp [postriderlaw07_HeadBytes.j3])
              | succ kj64 =>
               have H := HA.out
               clear HA
               simp only [postriderlaw07_HeadBytes.j3] at H
               by_cases c89 : x149_64 = true
               ·subst c89
                have H1 : (some false) = some r := by rw [if_pos rfl] at H; exact H
                clear H
                have H := H1
                clear H1
                exact absurd ((Option.some.inj H).trans HT_r.out) (by decide)
               ·replace c89 := Bool.eq_false_iff.mpr c89
                subst c89
                have H1 : (if (t262.length : Int) = 0 then ((head_Message_Put.f kj64 t262 t265 t266 0 (⟨#[]⟩ : ByteArray)).bind fun bt293 => (if bt293.2.2.2 = 1 then ((postriderlaw07_wakes.f kj64).bind fun t300 => (some t300)) else (some false))) else ((head_Message_Put.f kj64 t262 t265 t266 (Int.tmod (wrap64 (a2_1)) (t262.length : Int)) (strOfNums x13_3)).bind fun bt301 => (if bt301.2.2.2 = 0 then ((head_Message_May.f kj64 bt301.1 bt301.2.1 bt301.2.2.1).bind fun t308 => (if t308 = true then (if bt301.2.1.toList = t265.toList then (if (bt301.1.length : Int) = (t262.length : Int) then (if 0 ≤ (Int.tmod (wrap64 (a2_1)) (t262.length : Int)) then (if (Int.tmod (wrap64 (a2_1)) (t262.length : Int)) < (bt301.1.length : Int) then (if (Int.tmod (wrap64 (a2_1)) (t262.length : Int)) < (t259.length : Int) then (if ((rd_T41 bt301.1 (Int.tmod (wrap64 (a2_1)) (t262.length : Int))).f0).toList = (rdOf ByteArray.empty t259 (Int.tmod (wrap64 (a2_1)) (t262.length : Int))).toList then ((strings_Trim.f (strOfNums x13_3) (⟨#[32]⟩ : ByteArray)).bind fun t312 => (postriderlaw07_HeadBytes.j4 kj64 t258 (Int.tmod (wrap64 (a2_1)) (t262.length : Int)) (((rd_T41 bt301.1 (Int.tmod (wrap64 (a2_1)) (t262.length : Int))).f1).toList != t312.toList) t262 t265 t266 bt301.1 bt301.2.1 bt301.2.2.1)) else (postriderlaw07_HeadBytes.j4 kj64 t258 (Int.tmod (wrap64 (a2_1)) (t262.length : Int)) true t262 t265 t266 bt301.1 bt301.2.1 bt301.2.2.1)) else (none)) else (none)) else (none)) else (postriderlaw07_HeadBytes.j4 kj64 t258 (Int.tmod (wrap64 (a2_1)) (t262.length : Int)) true t262 t265 t266 bt301.1 bt301.2.1 bt301.2.2.1)) else (postriderlaw07_HeadBytes.j4 kj64 t258 (Int.tmod (wrap64 (a2_1)) (t262.length : Int)) true t262 t265 t266 bt301.1 bt301.2.1 bt301.2.2.1)) else (postriderlaw07_HeadBytes.j4 kj64 t258 (Int.tmod (wrap64 (a2_1)) (t262.length : Int)) true t262 t265 t266 bt301.1 bt301.2.1 bt301.2.2.1))) else (postriderlaw07_HeadBytes.j4 kj64 t258 (Int.tmod (wrap64 (a2_1)) (t262.length : Int)) true t262 t265 t266 bt301.1 bt301.2.1 bt301.2.2.1)))) = some r := by rw [if_neg (show ¬ (false = true) by decide)] at H; exact H
                clear H
                have H := H1
                clear H1
                by_cases c90 : (t262.length : Int) = 0
                ·rw [if_pos c90] at H
                 have c90b0 : ((t262.length : Int) == 0) = true := beq_iff_eq.mpr c90
                 have c90b1 : ((t262.length : Int) != 0) = false := bne_eq_false_iff_eq.mpr c90
                 clear c90
                 replace H := Option.bind_eq_some_iff.mp H
                 obtain ⟨⟨t293, t296, t297, t298⟩, A910, H⟩ := H
                 replace H : (if t298 = 1 then ((postriderlaw07_wakes.f kj64).bind fun t300 => (some t300)) else (some false)) = some r := H
                 have A91 := Aside0.mk A910
                 clear A910
                 by_cases c92 : t298 = 1
                 ·rw [if_pos c92] at H
                  have c92b0 : (t298 == 1) = true := beq_iff_eq.mpr c92
                  have c92b1 : (t298 != 1) = false := bne_eq_false_iff_eq.mpr c92
                  clear c92
                  replace H := Option.bind_eq_some_iff.mp H
                  obtain ⟨t300, A930, H⟩ := H
                  replace H : (some t300) = some r := H
                  have A93 := Aside0.mk A930
                  clear A930
                  obtain rfl := Option.some.inj H
                  have hnb94 := NB268_257.out
                  have hnc94 := NB257_268.out
                  have hnb95 := NB268_287.out
                  have hnc95 := NB287_268.out
                  have hcz96_0 : wc.cell? ⟨gb268, 0, none⟩ = some (.slice Ao12 t262.length co12) := (blk_cell BK268.out 0).trans rfl
                  have hcz96_1 : wc.cell? ⟨gb268, 1, none⟩ = some (.string t265) := (blk_cell BK268.out 1).trans rfl
                  have hcz96_2 : wc.cell? ⟨gb268, 2, none⟩ = some (.bool t266) := (blk_cell BK268.out 2).trans rfl
                  have hfz96_0 := blk_frozen BK268.out 0
                  have hfz96_1 := blk_frozen BK268.out 1
                  have hfz96_2 := blk_frozen BK268.out 2
                  go_wp2_with (first | ((with_reducible refine gate_callee (f := 33) rfl ?_); refine goesL_ (some 156) rfl rfl Tryd.func33 (by kernel_rfl) rfl #[.agg #[.slice Ao12 t262.length co12, .string t265, .bool t266], .int .i64 0, .string (⟨#[]⟩ : ByteArray)] rfl ml ?_; (with_reducible refine (head_Message_Put.calls kj64 _ _ t262 t265 t266 0 (⟨#[]⟩ : ByteArray) t293 t296 t297 t298 _ ?side1 ?side2 ?side3 A91.out).mono ?_); (case side1 => repeat (first | exact (Kd.R_reads' HO_269000.out).2.2 | (with_reducible refine Kd.C_alloc ?_ _) | (with_reducible refine Kd.C_drewN ?_ _) | (with_reducible refine Kd.C_drew ?_))); (case side2 => exact (Kd.R_reads' HO_269000.out).2.1); (case side3 => exact Glob.below HG.out bl); rintro e w97 ⟨v294, rfl, ho0, hb⟩; refine ⟨_, rfl, ?_⟩; have n0_ := Aside0.mk (Kd.R_below (kr HO_8.out) hb); have n1_ := Aside0.mk (Kd.B_below (by (with_reducible repeat (first | apply Kd.B_alloc | apply Kd.B_drewN | apply Kd.B_drew)); exact HO_13.out) hb); have n2_ := Aside0.mk (Kd.R_elder' (kr HO_269000.out) (Kd.R_base ho0) hb); have n3_ := Aside0.mk (Kd.R_elder' (kr HO_288000.out) (Kd.R_base ho0) hb); have n4_ := Aside0.mk (Kd.R_lower (Kd.R_new' (Kd.R_new' ho0 (Kd.R_lt (kr HO_269000.out))) (Kd.R_lt (kr HO_288000.out))) (below_size bl)); have n5_ := Aside0.mk (kb BK257.out hb); have n6_ := Aside0.mk (kb BK268.out hb); have n7_ := Aside0.mk (kb BK287.out hb); have n8_ := Aside0.mk (below_step bl hb); clear HO_8; clear HO_13; clear HO_269000; clear HO_288000; clear BK257; clear BK268; clear BK287; clear HB; have HO_8 := n0_; have HO_13 := n1_; have HO_269000 := n2_; have HO_288000 := n3_; have HO295 := n4_; have BK257 := n5_; have BK268 := n6_; have BK287 := n7_; have HB := n8_; clear n0_ n1_ n2_ n3_ n4_ n5_ n6_ n7_ n8_; (try clear hb); (try clear hb2); (try clear hk); (try clear hi); (try clear ho0)) | ((with_reducible refine gate_dst (N := 17) rfl ?_); (try (refine gate_guard (by rfl) ?_; dsimp only)); refine box_event ?hg (N := 17) ?hd (cs := #[.slice none 0 0, .string (⟨#[]⟩ : ByteArray), .bool false]) (t := 24) ?hr ?_; (case hd => rfl); (case hg => rfl); (case hr => first | (go_simp; done) | (go_simp; rfl)); intro gb299 hg w98 hbox hb; have n0_ := Aside0.mk (Kd.R_below (kr HO_8.out) hb); have n1_ := Aside0.mk (Kd.B_below (by (with_reducible repeat (first | apply Kd.B_alloc | apply Kd.B_drewN | apply Kd.B_drew)); exact HO_13.out) hb); have n2_ := Aside0.mk (Kd.R_below (kr HO_269000.out) hb); have n3_ := Aside0.mk (Kd.R_below (kr HO_288000.out) hb); have n4_ := Aside0.mk (Kd.R_below (kr HO295.out) hb); have n5_ := Aside0.mk (kb BK257.out hb); have n6_ := Aside0.mk (kb BK268.out hb); have n7_ := Aside0.mk (kb BK287.out hb); have n8_ := Aside0.mk (below_step bl hb); have n9_ := Aside0.mk (hbox); have n10_ := Aside0.mk ((by rw [hg]; exact (below_size bl) : w.heap.size ≤ gb299)); have n11_ := Aside0.mk ((by rw [hg]; exact (below_size bl) : w.heap.size ≤ gb299)); have n12_ := Aside0.mk ((by rw [hg]; exact Nat.ne_of_lt (blk_lt (bk BK257.out)) : gb257 ≠ gb299)); have n13_ := Aside0.mk ((by rw [hg]; exact Nat.ne_of_gt (blk_lt (bk BK257.out)) : gb299 ≠ gb257)); have n14_ := Aside0.mk ((by rw [hg]; exact Nat.ne_of_lt (blk_lt (bk BK268.out)) : gb268 ≠ gb299)); have n15_ := Aside0.mk ((by rw [hg]; exact Nat.ne_of_gt (blk_lt (bk BK268.out)) : gb299 ≠ gb268)); have n16_ := Aside0.mk ((by rw [hg]; exact Nat.ne_of_lt (blk_lt (bk BK287.out)) : gb287 ≠ gb299)); have n17_ := Aside0.mk ((by rw [hg]; exact Nat.ne_of_gt (blk_lt (bk BK287.out)) : gb299 ≠ gb287)); clear HO_8; clear HO_13; clear HO_269000; clear HO_288000; clear HO295; clear BK257; clear BK268; clear BK287; clear HB; have HO_8 := n0_; have HO_13 := n1_; have HO_269000 := n2_; have HO_288000 := n3_; have HO295 := n4_; have BK257 := n5_; have BK268 := n6_; have BK287 := n7_; have HB := n8_; have BK299 := n9_; have GW299 := n10_; have GE299 := n11_; have NB257_299 := n12_; have NB299_257 := n13_; have NB268_299 := n14_; have NB299_268 := n15_; have NB287_299 := n16_; have NB299_287 := n17_; clear n0_ n1_ n2_ n3_ n4_ n5_ n6_ n7_ n8_ n9_ n10_ n11_ n12_ n13_ n14_ n15_ n16_ n17_; clear hb hbox hg; obtain ⟨Ao99, co99, eo99⟩ := Kd.R_slice HO295.out; subst eo99; have hnb100 := NB299_257.out; have hnc100 := NB257_299.out; have hnb101 := NB299_268.out; have hnc101 := NB268_299.out; have hnb102 := NB299_287.out; have hnc102 := NB287_299.out; have hcz103_0 : w98.cell? ⟨gb299, 0, none⟩ = some (.slice none 0 0) := (blk_cell BK299.out 0).trans rfl; have hcz103_1 : w98.cell? ⟨gb299, 1, none⟩ = some (.string (⟨#[]⟩ : ByteArray)) := (blk_cell BK299.out 1).trans rfl; have hcz103_2 : w98.cell? ⟨gb299, 2, none⟩ = some (.bool false) := (blk_cell BK299.out 2).trans rfl; have hfz103_0 := blk_frozen BK299.out 0; have hfz103_1 := blk_frozen BK299.out 1; have hfz103_2 := blk_frozen BK299.out 2) | (go_at_call 13; (with_reducible refine (postriderlaw07_wakes.calls kj64  t300 _ ?side1 A93.out).mono ?_); (case side1 => exact Glob.below HG.out bl); rintro e w104 ⟨rfl, hb⟩; have n0_ := Aside0.mk (Kd.R_below (by (with_reducible repeat (first | apply Kd.R_alloc | apply Kd.R_drewN | apply Kd.R_drew)); exact (Kd.R_mono (Kd.R_far (p := ⟨gb299, 2, none⟩) (Kd.R_far (p := ⟨gb299, 1, none⟩) (Kd.R_far (p := ⟨gb299, 0, none⟩) (Kd.R_types HO_8.out BK299.out (by decide)) (fun _ hk => hk.2) (.slice Ao99 t293.length co99)) (fun _ hk => hk.2) (.string t296)) (fun _ hk => hk.2) (.bool t297)) (fun _ h_ => h_.1))) hb); have n1_ := Aside0.mk (Kd.B_below (by (with_reducible repeat (first | apply Kd.B_alloc | apply Kd.B_drewN | apply Kd.B_drew)); exact (Kd.B_mono (Kd.B_far (p := ⟨gb299, 2, none⟩) (Kd.B_far (p := ⟨gb299, 1, none⟩) (Kd.B_far (p := ⟨gb299, 0, none⟩) (Kd.B_types HO_13.out BK299.out (by decide)) (fun _ hk => hk.2) (.slice Ao99 t293.length co99)) (fun _ hk => hk.2) (.string t296)) (fun _ hk => hk.2) (.bool t297)) (fun _ h_ => h_.1))) hb); have n2_ := Aside0.mk (Kd.R_below (by (with_reducible repeat (first | apply Kd.R_alloc | apply Kd.R_drewN | apply Kd.R_drew)); exact (Kd.R_mono (Kd.R_far (p := ⟨gb299, 2, none⟩) (Kd.R_far (p := ⟨gb299, 1, none⟩) (Kd.R_far (p := ⟨gb299, 0, none⟩) (Kd.R_types HO_269000.out BK299.out (by decide)) (fun _ hk => hk.2) (.slice Ao99 t293.length co99)) (fun _ hk => hk.2) (.string t296)) (fun _ hk => hk.2) (.bool t297)) (fun _ h_ => h_.1))) hb); have n3_ := Aside0.mk (Kd.R_below (by (with_reducible repeat (first | apply Kd.R_alloc | apply Kd.R_drewN | apply Kd.R_drew)); exact (Kd.R_mono (Kd.R_far (p := ⟨gb299, 2, none⟩) (Kd.R_far (p := ⟨gb299, 1, none⟩) (Kd.R_far (p := ⟨gb299, 0, none⟩) (Kd.R_types HO_288000.out BK299.out (by decide)) (fun _ hk => hk.2) (.slice Ao99 t293.length co99)) (fun _ hk => hk.2) (.string t296)) (fun _ hk => hk.2) (.bool t297)) (fun _ h_ => h_.1))) hb); have n4_ := Aside0.mk (Kd.R_below (by (with_reducible repeat (first | apply Kd.R_alloc | apply Kd.R_drewN | apply Kd.R_drew)); exact (Kd.R_mono (Kd.R_far (p := ⟨gb299, 2, none⟩) (Kd.R_far (p := ⟨gb299, 1, none⟩) (Kd.R_far (p := ⟨gb299, 0, none⟩) (Kd.R_types HO295.out BK299.out (by decide)) (fun _ hk => hk.2) (.slice Ao99 t293.length co99)) (fun _ hk => hk.2) (.string t296)) (fun _ hk => hk.2) (.bool t297)) (fun _ h_ => h_.1))) hb); have n5_ := Aside0.mk (kb BK257.out hb); have n6_ := Aside0.mk (kb BK268.out hb); have n7_ := Aside0.mk (kb BK287.out hb); have n8_ := Aside0.mk (blk_below (g := gb299) (o := .cells #[.slice Ao99 t293.length co99, .string t296, .bool t297] 24 (0, 0)) (by (with_reducible repeat (first | refine blk_drewN ?_ _ | refine blk_drew ?_ | refine blk_alloc ?_ _)); refine blk_put (cs := #[.slice Ao99 t293.length co99, .string t296, .bool false]) ?_ 2 _ rfl; (with_reducible repeat (first | refine blk_drewN ?_ _ | refine blk_drew ?_ | refine blk_alloc ?_ _)); refine blk_put (cs := #[.slice Ao99 t293.length co99, .string (⟨#[]⟩ : ByteArray), .bool false]) ?_ 1 _ rfl; (with_reducible repeat (first | refine blk_drewN ?_ _ | refine blk_drew ?_ | refine blk_alloc ?_ _)); refine blk_put (cs := #[.slice none 0 0, .string (⟨#[]⟩ : ByteArray), .bool false]) ?_ 0 _ rfl; (with_reducible repeat (first | refine blk_drewN ?_ _ | refine blk_drew ?_ | refine blk_alloc ?_ _)); exact BK299.out) hb); have n9_ := Aside0.mk (below_step bl hb); clear HO_8; clear HO_13; clear HO_269000; clear HO_288000; clear HO295; clear BK257; clear BK268; clear BK287; clear BK299; clear HB; have HO_8 := n0_; have HO_13 := n1_; have HO_269000 := n2_; have HO_288000 := n3_; have HO295 := n4_; have BK257 := n5_; have BK268 := n6_; have BK287 := n7_; have BK299 := n8_; have HB := n9_; clear n0_ n1_ n2_ n3_ n4_ n5_ n6_ n7_ n8_ n9_; (try clear hb); (try clear hb2); (try clear hk); (try clear hi)))
                  go_ret
                  exact ⟨by first | rfl | (simp [bneNil]; done) | (simp [errW_none, errW_some] <;> rfl) | (simp only [← hji48]; first | rfl | (simp [errW_none, errW_some] <;> rfl)) | (simp [*, errW_none, errW_some] <;> rfl), by repeat (first | (with_reducible first | exact HB.out | apply below_alloc | apply pw_below_drewN | apply below_drew1 | refine below_set ?_ GE257.out | refine below_set ?_ GE268.out | refine below_set ?_ GE287.out | refine below_set ?_ GE299.out) | exact HB.out)⟩
                 ·rw [if_neg c92] at H
                  have c92b0 : (t298 == 1) = false := beq_eq_false_iff_ne.mpr c92
                  have c92b1 : (t298 != 1) = true := bne_iff_ne.mpr c92
                  exact absurd ((Option.some.inj H).trans HT_r.out) (by decide)
                ·rw [if_neg c90] at H
                 have c90b0 : ((t262.length : Int) == 0) = false := beq_eq_false_iff_ne.mpr c90
                 have c90b1 : ((t262.length : Int) != 0) = true := bne_iff_ne.mpr c90
                 have c90b2 : ¬ (t262 = []) := fun h_ => c90 (by rw [h_]; rfl)
                 replace H := Option.bind_eq_some_iff.mp H
                 obtain ⟨⟨t301, t304, t305, t306⟩, A1050, H⟩ := H
                 replace H : (if t306 = 0 then ((head_Message_May.f kj64 t301 t304 t305).bind fun t308 => (if t308 = true then (if t304.toList = t265.toList then (if (t301.length : Int) = (t262.length : Int) then (if 0 ≤ (Int.tmod (wrap64 (a2_1)) (t262.length : Int)) then (if (Int.tmod (wrap64 (a2_1)) (t262.length : Int)) < (t301.length : Int) then (if (Int.tmod (wrap64 (a2_1)) (t262.length : Int)) < (t259.length : Int) then (if ((rd_T41 t301 (Int.tmod (wrap64 (a2_1)) (t262.length : Int))).f0).toList = (rdOf ByteArray.empty t259 (Int.tmod (wrap64 (a2_1)) (t262.length : Int))).toList then ((strings_Trim.f (strOfNums x13_3) (⟨#[32]⟩ : ByteArray)).bind fun t312 => (postriderlaw07_HeadBytes.j4 kj64 t258 (Int.tmod (wrap64 (a2_1)) (t262.length : Int)) (((rd_T41 t301 (Int.tmod (wrap64 (a2_1)) (t262.length : Int))).f1).toList != t312.toList) t262 t265 t266 t301 t304 t305)) else (postriderlaw07_HeadBytes.j4 kj64 t258 (Int.tmod (wrap64 (a2_1)) (t262.length : Int)) true t262 t265 t266 t301 t304 t305)) else (none)) else (none)) else (none)) else (postriderlaw07_HeadBytes.j4 kj64 t258 (Int.tmod (wrap64 (a2_1)) (t262.length : Int)) true t262 t265 t266 t301 t304 t305)) else (postriderlaw07_HeadBytes.j4 kj64 t258 (Int.tmod (wrap64 (a2_1)) (t262.length : Int)) true t262 t265 t266 t301 t304 t305)) else (postriderlaw07_HeadBytes.j4 kj64 t258 (Int.tmod (wrap64 (a2_1)) (t262.length : Int)) true t262 t265 t266 t301 t304 t305))) else (postriderlaw07_HeadBytes.j4 kj64 t258 (Int.tmod (wrap64 (a2_1)) (t262.length : Int)) true t262 t265 t266 t301 t304 t305)) = some r := H
                 have A105 := Aside0.mk A1050
                 clear A1050
                 have HC106 := Aside0.mk H
                 clear H
                 have hnb107 := NB268_257.out
                 have hnc107 := NB257_268.out
                 have hnb108 := NB268_287.out
                 have hnc108 := NB287_268.out
                 have hcz109_0 : wc.cell? ⟨gb268, 0, none⟩ = some (.slice Ao12 t262.length co12) := (blk_cell BK268.out 0).trans rfl
                 have hcz109_1 : wc.cell? ⟨gb268, 1, none⟩ = some (.string t265) := (blk_cell BK268.out 1).trans rfl
                 have hcz109_2 : wc.cell? ⟨gb268, 2, none⟩ = some (.bool t266) := (blk_cell BK268.out 2).trans rfl
                 have hfz109_0 := blk_frozen BK268.out 0
                 have hfz109_1 := blk_frozen BK268.out 1
                 have hfz109_2 := blk_frozen BK268.out 2
                 have hnb110 := NB257_287.out
                 have hnc110 := NB287_257.out
                 have hcz111_0 : wc.cell? ⟨gb257, 0, none⟩ = some (.string a2_0) := (blk_cell BK257.out 0).trans rfl
                 have hcz111_1 : wc.cell? ⟨gb257, 1, none⟩ = some (.int .u8 a2_1) := (blk_cell BK257.out 1).trans rfl
                 have hcz111_2 : wc.cell? ⟨gb257, 2, none⟩ = some (.bool a2_2) := (blk_cell BK257.out 2).trans rfl
                 have hfz111_0 := blk_frozen BK257.out 0
                 have hfz111_1 := blk_frozen BK257.out 1
                 have hfz111_2 := blk_frozen BK257.out 2
                 have hcv112 := Kd.B_string (P := Tryd.prog) Tryd.underlying39 Tryd.underlying5 Tryd.underlying9 HO_13.out
                 go_upto_region 25 with (first | ((with_reducible refine gate_callee (f := 33) rfl ?_); refine goesL_ (some 176) rfl rfl Tryd.func33 (by kernel_rfl) rfl #[.agg #[.slice Ao12 t262.length co12, .string t265, .bool t266], .int .i64 (Int.tmod (wrap64 (a2_1)) (t262.length : Int)), .string (strOfNums x13_3)] rfl ml ?_; (with_reducible refine (head_Message_Put.calls kj64 _ _ t262 t265 t266 (Int.tmod (wrap64 (a2_1)) (t262.length : Int)) (strOfNums x13_3) t301 t304 t305 t306 _ ?side1 ?side2 ?side3 A105.out).mono ?_); (case side1 => repeat (first | exact (Kd.R_reads' HO_269000.out).2.2 | (with_reducible refine Kd.C_alloc ?_ _) | (with_reducible refine Kd.C_drewN ?_ _) | (with_reducible refine Kd.C_drew ?_))); (case side2 => exact (Kd.R_reads' HO_269000.out).2.1); (case side3 => exact Glob.below HG.out bl); rintro e w113 ⟨v302, rfl, ho0, hb⟩; refine ⟨_, rfl, ?_⟩; have n0_ := Aside0.mk (Kd.R_below (kr HO_8.out) hb); have n1_ := Aside0.mk (Kd.B_below (by (with_reducible repeat (first | apply Kd.B_alloc | apply Kd.B_drewN | apply Kd.B_drew)); exact HO_13.out) hb); have n2_ := Aside0.mk (Kd.R_elder' (kr HO_269000.out) (Kd.R_base ho0) hb); have n3_ := Aside0.mk (Kd.R_elder' (kr HO_288000.out) (Kd.R_base ho0) hb); have n4_ := Aside0.mk (Kd.R_lower (Kd.R_new' (Kd.R_new' ho0 (Kd.R_lt (kr HO_269000.out))) (Kd.R_lt (kr HO_288000.out))) (below_size bl)); have n5_ := Aside0.mk (kb BK257.out hb); have n6_ := Aside0.mk (kb BK268.out hb); have n7_ := Aside0.mk (kb BK287.out hb); have n8_ := Aside0.mk (below_step bl hb); clear HO_8; clear HO_13; clear HO_269000; clear HO_288000; clear BK257; clear BK268; clear BK287; clear HB; have HO_8 := n0_; have HO_13 := n1_; have HO_269000 := n2_; have HO_288000 := n3_; have HO303 := n4_; have BK257 := n5_; have BK268 := n6_; have BK287 := n7_; have HB := n8_; clear n0_ n1_ n2_ n3_ n4_ n5_ n6_ n7_ n8_; (try clear hb); (try clear hb2); (try clear hk); (try clear hi); (try clear ho0)) | ((with_reducible refine gate_dst (N := 20) rfl ?_); (try (refine gate_guard (by rfl) ?_; dsimp only)); refine box_event ?hg (N := 20) ?hd (cs := #[.slice none 0 0, .string (⟨#[]⟩ : ByteArray), .bool false]) (t := 24) ?hr ?_; (case hd => rfl); (case hg => rfl); (case hr => first | (go_simp; done) | (go_simp; rfl)); intro gb307 hg w114 hbox hb; have n0_ := Aside0.mk (Kd.R_below (kr HO_8.out) hb); have n1_ := Aside0.mk (Kd.B_below (by (with_reducible repeat (first | apply Kd.B_alloc | apply Kd.B_drewN | apply Kd.B_drew)); exact HO_13.out) hb); have n2_ := Aside0.mk (Kd.R_below (kr HO_269000.out) hb); have n3_ := Aside0.mk (Kd.R_below (kr HO_288000.out) hb); have n4_ := Aside0.mk (Kd.R_below (kr HO303.out) hb); have n5_ := Aside0.mk (kb BK257.out hb); have n6_ := Aside0.mk (kb BK268.out hb); have n7_ := Aside0.mk (kb BK287.out hb); have n8_ := Aside0.mk (below_step bl hb); have n9_ := Aside0.mk (hbox); have n10_ := Aside0.mk ((by rw [hg]; exact (below_size bl) : w.heap.size ≤ gb307)); have n11_ := Aside0.mk ((by rw [hg]; exact (below_size bl) : w.heap.size ≤ gb307)); have n12_ := Aside0.mk ((by rw [hg]; exact Nat.ne_of_lt (blk_lt (bk BK257.out)) : gb257 ≠ gb307)); have n13_ := Aside0.mk ((by rw [hg]; exact Nat.ne_of_gt (blk_lt (bk BK257.out)) : gb307 ≠ gb257)); have n14_ := Aside0.mk ((by rw [hg]; exact Nat.ne_of_lt (blk_lt (bk BK268.out)) : gb268 ≠ gb307)); have n15_ := Aside0.mk ((by rw [hg]; exact Nat.ne_of_gt (blk_lt (bk BK268.out)) : gb307 ≠ gb268)); have n16_ := Aside0.mk ((by rw [hg]; exact Nat.ne_of_lt (blk_lt (bk BK287.out)) : gb287 ≠ gb307)); have n17_ := Aside0.mk ((by rw [hg]; exact Nat.ne_of_gt (blk_lt (bk BK287.out)) : gb307 ≠ gb287)); clear HO_8; clear HO_13; clear HO_269000; clear HO_288000; clear HO303; clear BK257; clear BK268; clear BK287; clear HB; have HO_8 := n0_; have HO_13 := n1_; have HO_269000 := n2_; have HO_288000 := n3_; have HO303 := n4_; have BK257 := n5_; have BK268 := n6_; have BK287 := n7_; have HB := n8_; have BK307 := n9_; have GW307 := n10_; have GE307 := n11_; have NB257_307 := n12_; have NB307_257 := n13_; have NB268_307 := n14_; have NB307_268 := n15_; have NB287_307 := n16_; have NB307_287 := n17_; clear n0_ n1_ n2_ n3_ n4_ n5_ n6_ n7_ n8_ n9_ n10_ n11_ n12_ n13_ n14_ n15_ n16_ n17_; clear hb hbox hg; obtain ⟨Ao115, co115, eo115⟩ := Kd.R_slice HO303.out; subst eo115; have hnb116 := NB307_257.out; have hnc116 := NB257_307.out; have hnb117 := NB307_268.out; have hnc117 := NB268_307.out; have hnb118 := NB307_287.out; have hnc118 := NB287_307.out; have hcz119_0 : w114.cell? ⟨gb307, 0, none⟩ = some (.slice none 0 0) := (blk_cell BK307.out 0).trans rfl; have hcz119_1 : w114.cell? ⟨gb307, 1, none⟩ = some (.string (⟨#[]⟩ : ByteArray)) := (blk_cell BK307.out 1).trans rfl; have hcz119_2 : w114.cell? ⟨gb307, 2, none⟩ = some (.bool false) := (blk_cell BK307.out 2).trans rfl; have hfz119_0 := blk_frozen BK307.out 0; have hfz119_1 := blk_frozen BK307.out 1; have hfz119_2 := blk_frozen BK307.out 2))
                 (try simp only [Act.put, List.setIfInBounds_toArray, List.set_cons_zero, List.set_cons_succ])
                 go_cut [226] (fun v226 wc => ∃ (kq : Nat) (x226_105 : Bool), v226 = .bool x226_105 ∧ Aside0 (postriderlaw07_HeadBytes.j4 kq t258 (Int.tmod (wrap64 (a2_1)) (t262.length : Int)) x226_105 t262 t265 t266 t301 t304 t305 = some r) ∧ Aside0 (kq ≤ kj64) ∧ Aside0 (Kd.R k41 41 wc w.heap.size (fun k_ => some k_ ≠ ((.slice Ao71 t281.length co71) : Value).ownBlock ∧ some k_ ≠ ((.slice Ao115 t301.length co115) : Value).ownBlock) (.slice Ao12 t262.length co12) t262) ∧ Aside0 (Kd.R k41 41 wc w.heap.size (fun k_ => some k_ ≠ ((.slice Ao12 t262.length co12) : Value).ownBlock ∧ some k_ ≠ ((.slice Ao115 t301.length co115) : Value).ownBlock) (.slice Ao71 t281.length co71) t281) ∧ Aside0 (Kd.R k41 41 wc w.heap.size (fun k_ => some k_ ≠ ((.slice Ao12 t262.length co12) : Value).ownBlock ∧ some k_ ≠ ((.slice Ao71 t281.length co71) : Value).ownBlock) (.slice Ao115 t301.length co115) t301) ∧ Aside0 (wc.heap[gb257]? = some (.cells #[.string a2_0, .int .u8 a2_1, .bool a2_2] 70 (0, 0))) ∧ Aside0 (wc.heap[gb268]? = some (.cells #[(.slice Ao12 t262.length co12), .string t265, .bool t266] 24 (0, 0))) ∧ Aside0 (wc.heap[gb287]? = some (.cells #[(.slice Ao71 t281.length co71), .string t284, .bool t285] 24 (0, 0))) ∧ Aside0 (wc.heap[gb307]? = some (.cells #[(.slice Ao115 t301.length co115), .string t304, .bool t305] 24 (0, 0))) ∧ Aside0 (Below w.heap.size w wc))
                 case first => as_aux_lemma =>
                  have H := HC106.out
                  clear HC106
                  by_cases c120 : t306 = 0
                  ·rw [if_pos c120] at H
                   have c120b0 : (t306 == 0) = true := beq_iff_eq.mpr c120
                   have c120b1 : (t306 != 0) = false := bne_eq_false_iff_eq.mpr c120
                   clear c120
                   (first | rw [c120b0] | (simp only [i64_w, i32_w]; rw [c120b0]) | skip)
                   replace H := Option.bind_eq_some_iff.mp H
                   obtain ⟨t308, A1210, H⟩ := H
                   replace H : (if t308 = true then (if t304.toList = t265.toList then (if (t301.length : Int) = (t262.length : Int) then (if 0 ≤ (Int.tmod (wrap64 (a2_1)) (t262.length : Int)) then (if (Int.tmod (wrap64 (a2_1)) (t262.length : Int)) < (t301.length : Int) then (if (Int.tmod (wrap64 (a2_1)) (t262.length : Int)) < (t259.length : Int) then (if ((rd_T41 t301 (Int.tmod (wrap64 (a2_1)) (t262.length : Int))).f0).toList = (rdOf ByteArray.empty t259 (Int.tmod (wrap64 (a2_1)) (t262.length : Int))).toList then ((strings_Trim.f (strOfNums x13_3) (⟨#[32]⟩ : ByteArray)).bind fun t312 => (postriderlaw07_HeadBytes.j4 kj64 t258 (Int.tmod (wrap64 (a2_1)) (t262.length : Int)) (((rd_T41 t301 (Int.tmod (wrap64 (a2_1)) (t262.length : Int))).f1).toList != t312.toList) t262 t265 t266 t301 t304 t305)) else (postriderlaw07_HeadBytes.j4 kj64 t258 (Int.tmod (wrap64 (a2_1)) (t262.length : Int)) true t262 t265 t266 t301 t304 t305)) else (none)) else (none)) else (none)) else (postriderlaw07_HeadBytes.j4 kj64 t258 (Int.tmod (wrap64 (a2_1)) (t262.length : Int)) true t262 t265 t266 t301 t304 t305)) else (postriderlaw07_HeadBytes.j4 kj64 t258 (Int.tmod (wrap64 (a2_1)) (t262.length : Int)) true t262 t265 t266 t301 t304 t305)) else (postriderlaw07_HeadBytes.j4 kj64 t258 (Int.tmod (wrap64 (a2_1)) (t262.length : Int)) true t262 t265 t266 t301 t304 t305)) = some r := H
                   have A121 := Aside0.mk A1210
                   clear A1210
                   by_cases c122 : t308 = true
                   ·subst c122
                    have H1 : (if t304.toList = t265.toList then (if (t301.length : Int) = (t262.length : Int) then (if 0 ≤ (Int.tmod (wrap64 (a2_1)) (t262.length : Int)) then (if (Int.tmod (wrap64 (a2_1)) (t262.length : Int)) < (t301.length : Int) then (if (Int.tmod (wrap64 (a2_1)) (t262.length : Int)) < (t259.length : Int) then (if ((rd_T41 t301 (Int.tmod (wrap64 (a2_1)) (t262.length : Int))).f0).toList = (rdOf ByteArray.empty t259 (Int.tmod (wrap64 (a2_1)) (t262.length : Int))).toList then ((strings_Trim.f (strOfNums x13_3) (⟨#[32]⟩ : ByteArray)).bind fun t312 => (postriderlaw07_HeadBytes.j4 kj64 t258 (Int.tmod (wrap64 (a2_1)) (t262.length : Int)) (((rd_T41 t301 (Int.tmod (wrap64 (a2_1)) (t262.length : Int))).f1).toList != t312.toList) t262 t265 t266 t301 t304 t305)) else (postriderlaw07_HeadBytes.j4 kj64 t258 (Int.tmod (wrap64 (a2_1)) (t262.length : Int)) true t262 t265 t266 t301 t304 t305)) else (none)) else (none)) else (none)) else (postriderlaw07_HeadBytes.j4 kj64 t258 (Int.tmod (wrap64 (a2_1)) (t262.length : Int)) true t262 t265 t266 t301 t304 t305)) else (postriderlaw07_HeadBytes.j4 kj64 t258 (Int.tmod (wrap64 (a2_1)) (t262.length : Int)) true t262 t265 t266 t301 t304 t305)) = some r := by rw [if_pos rfl] at H; exact H
                    clear H
                    have H := H1
                    clear H1
                    by_cases c123 : t304.toList = t265.toList
                    ·rw [if_pos c123] at H
                     have c123b0 : (t304.toList == t265.toList) = true := beq_iff_eq.mpr c123
                     have c123b1 : (t304.toList != t265.toList) = false := bne_eq_false_iff_eq.mpr c123
                     clear c123
                     by_cases c124 : (t301.length : Int) = (t262.length : Int)
                     ·rw [if_pos c124] at H
                      have c124b0 : ((t301.length : Int) == (t262.length : Int)) = true := beq_iff_eq.mpr c124
                      have c124b1 : ((t301.length : Int) != (t262.length : Int)) = false := bne_eq_false_iff_eq.mpr c124
                      have c124b2 : (t301.length == t262.length) = true := by first | simpa using c124 | (simp at c124 ⊢; omega)
                      clear c124
                      obtain ⟨ji125, hji125⟩ : ∃ j_ : Int, (Int.tmod (wrap64 (a2_1)) (t262.length : Int)) = j_ := ⟨_, rfl⟩
                      replace H : (if 0 ≤ (ji125) then (if (ji125) < (t301.length : Int) then (if (ji125) < (t259.length : Int) then (if ((rd_T41 t301 (ji125)).f0).toList = (rdOf ByteArray.empty t259 (ji125)).toList then ((strings_Trim.f (strOfNums x13_3) (⟨#[32]⟩ : ByteArray)).bind fun t312 => (postriderlaw07_HeadBytes.j4 kj64 t258 ji125 (((rd_T41 t301 (ji125)).f1).toList != t312.toList) t262 t265 t266 t301 t304 t305)) else (postriderlaw07_HeadBytes.j4 kj64 t258 ji125 true t262 t265 t266 t301 t304 t305)) else (none)) else (none)) else (none)) = some r := by first | (rw [hji125] at H; exact H) | (simp only [hji125] at H ⊢; exact H)
                      (try rw [hji125] at A121)
                      by_cases c126 : 0 ≤ (ji125)
                      ·rw [if_pos c126] at H
                       have c126b0 : decide (0 ≤ (ji125)) = true := decide_eq_true c126
                       (try simp only [hl13_3] at c126b0)
                       clear c126
                       by_cases c127 : (ji125) < (t301.length : Int)
                       ·rw [if_pos c127] at H
                        have c127b0 : decide ((ji125) < (t301.length : Int)) = true := decide_eq_true c127
                        (try simp only [hl13_3] at c127b0)
                        clear c127
                        by_cases c128 : (ji125) < (t259.length : Int)
                        ·rw [if_pos c128] at H
                         have c128b0 : decide ((ji125) < (t259.length : Int)) = true := decide_eq_true c128
                         (try simp only [hl13_3] at c128b0)
                         clear c128
                         by_cases c129 : ((rd_T41 t301 (ji125)).f0).toList = (rdOf ByteArray.empty t259 (ji125)).toList
                         ·rw [if_pos c129] at H
                          have c129b0 : (((rd_T41 t301 (ji125)).f0).toList == (rdOf ByteArray.empty t259 (ji125)).toList) = true := beq_iff_eq.mpr c129
                          have c129b1 : (((rd_T41 t301 (ji125)).f0).toList != (rdOf ByteArray.empty t259 (ji125)).toList) = false := bne_eq_false_iff_eq.mpr c129
                          clear c129
                          replace H := Option.bind_eq_some_iff.mp H
                          obtain ⟨t312, A1300, H⟩ := H
                          replace H : (postriderlaw07_HeadBytes.j4 kj64 t258 ji125 (((rd_T41 t301 (ji125)).f1).toList != t312.toList) t262 t265 t266 t301 t304 t305) = some r := H
                          have A130 := Aside0.mk A1300
                          clear A1300
                          have H' := Aside0.mk H
                          clear H
                          try go_wp2
                          have n0_ : Aside0 (Kd.R Kd.string 9 (((w114.setCell ⟨gb307, 0, none⟩ (.slice Ao115 t301.length co115)).setCell ⟨gb307, 1, none⟩ (.string t304)).setCell ⟨gb307, 2, none⟩ (.bool t305)) w.heap.size (fun _ => True) v260 t259) := ⟨by (with_reducible repeat (first | apply Kd.R_alloc | apply Kd.R_drewN | apply Kd.R_drew)); exact Kd.R_mono (Kd.R_far (p := ⟨gb307, 2, none⟩) (Kd.R_far (p := ⟨gb307, 1, none⟩) (Kd.R_far (p := ⟨gb307, 0, none⟩) (Kd.R_types HO_8.out BK307.out (by decide)) (fun _ hk => hk.2) (.slice Ao115 t301.length co115)) (fun _ hk => hk.2) (.string t304)) (fun _ hk => hk.2) (.bool t305)) (fun _ hk => trivial)⟩
                          have n1_ : Aside0 (Kd.B (Kd.int .u8) 5 (((w114.setCell ⟨gb307, 0, none⟩ (.slice Ao115 t301.length co115)).setCell ⟨gb307, 1, none⟩ (.string t304)).setCell ⟨gb307, 2, none⟩ (.bool t305)) w.heap.size (fun _ => True) (.slice Ao57 x13_3.length co57) x13_3) := ⟨by (with_reducible repeat (first | apply Kd.B_alloc | apply Kd.B_drewN | apply Kd.B_drew)); exact Kd.B_mono (Kd.B_far (p := ⟨gb307, 2, none⟩) (Kd.B_far (p := ⟨gb307, 1, none⟩) (Kd.B_far (p := ⟨gb307, 0, none⟩) (Kd.B_types HO_13.out BK307.out (by decide)) (fun _ hk => hk.2) (.slice Ao115 t301.length co115)) (fun _ hk => hk.2) (.string t304)) (fun _ hk => hk.2) (.bool t305)) (fun _ hk => trivial)⟩
                          have n2_ : Aside0 (Kd.R k41 41 (((w114.setCell ⟨gb307, 0, none⟩ (.slice Ao115 t301.length co115)).setCell ⟨gb307, 1, none⟩ (.string t304)).setCell ⟨gb307, 2, none⟩ (.bool t305)) w.heap.size (fun k_ => some k_ ≠ (.slice Ao71 t281.length co71 : Value).ownBlock ∧ some k_ ≠ (.slice Ao115 t301.length co115 : Value).ownBlock) (.slice Ao12 t262.length co12) t262) := ⟨by (with_reducible repeat (first | apply Kd.R_alloc | apply Kd.R_drewN | apply Kd.R_drew)); exact Kd.R_mono (Kd.R_far (p := ⟨gb307, 2, none⟩) (Kd.R_far (p := ⟨gb307, 1, none⟩) (Kd.R_far (p := ⟨gb307, 0, none⟩) (Kd.R_types HO_269000.out BK307.out (by decide)) (fun _ hk => hk.2) (.slice Ao115 t301.length co115)) (fun _ hk => hk.2) (.string t304)) (fun _ hk => hk.2) (.bool t305)) (fun _ hk => ⟨hk.1.1, hk.1.2⟩)⟩
                          have n3_ : Aside0 (Kd.R k41 41 (((w114.setCell ⟨gb307, 0, none⟩ (.slice Ao115 t301.length co115)).setCell ⟨gb307, 1, none⟩ (.string t304)).setCell ⟨gb307, 2, none⟩ (.bool t305)) w.heap.size (fun k_ => some k_ ≠ (.slice Ao12 t262.length co12 : Value).ownBlock ∧ some k_ ≠ (.slice Ao115 t301.length co115 : Value).ownBlock) (.slice Ao71 t281.length co71) t281) := ⟨by (with_reducible repeat (first | apply Kd.R_alloc | apply Kd.R_drewN | apply Kd.R_drew)); exact Kd.R_mono (Kd.R_far (p := ⟨gb307, 2, none⟩) (Kd.R_far (p := ⟨gb307, 1, none⟩) (Kd.R_far (p := ⟨gb307, 0, none⟩) (Kd.R_types HO_288000.out BK307.out (by decide)) (fun _ hk => hk.2) (.slice Ao115 t301.length co115)) (fun _ hk => hk.2) (.string t304)) (fun _ hk => hk.2) (.bool t305)) (fun _ hk => ⟨hk.1.1, hk.1.2⟩)⟩
                          have n4_ : Aside0 (Kd.R k41 41 (((w114.setCell ⟨gb307, 0, none⟩ (.slice Ao115 t301.length co115)).setCell ⟨gb307, 1, none⟩ (.string t304)).setCell ⟨gb307, 2, none⟩ (.bool t305)) w.heap.size (fun k_ => some k_ ≠ (.slice Ao12 t262.length co12 : Value).ownBlock ∧ some k_ ≠ (.slice Ao71 t281.length co71 : Value).ownBlock) (.slice Ao115 t301.length co115) t301) := ⟨by (with_reducible repeat (first | apply Kd.R_alloc | apply Kd.R_drewN | apply Kd.R_drew)); exact Kd.R_mono (Kd.R_far (p := ⟨gb307, 2, none⟩) (Kd.R_far (p := ⟨gb307, 1, none⟩) (Kd.R_far (p := ⟨gb307, 0, none⟩) (Kd.R_types HO303.out BK307.out (by decide)) (fun _ hk => hk.2) (.slice Ao115 t301.length co115)) (fun _ hk => hk.2) (.string t304)) (fun _ hk => hk.2) (.bool t305)) (fun _ hk => ⟨hk.1.1.2, hk.1.2⟩)⟩
                          have n5_ : Aside0 ((((w114.setCell ⟨gb307, 0, none⟩ (.slice Ao115 t301.length co115)).setCell ⟨gb307, 1, none⟩ (.string t304)).setCell ⟨gb307, 2, none⟩ (.bool t305)).heap[gb257]? = some (.cells #[.string a2_0, .int .u8 a2_1, .bool a2_2] 70 (0, 0))) := ⟨by (with_reducible repeat (first | refine blk_drewN ?_ _ | refine blk_drew ?_ | refine blk_alloc ?_ _)); refine blk_far ?_ NB257_307.out _; (with_reducible repeat (first | refine blk_drewN ?_ _ | refine blk_drew ?_ | refine blk_alloc ?_ _)); refine blk_far ?_ NB257_307.out _; (with_reducible repeat (first | refine blk_drewN ?_ _ | refine blk_drew ?_ | refine blk_alloc ?_ _)); refine blk_far ?_ NB257_307.out _; (with_reducible repeat (first | refine blk_drewN ?_ _ | refine blk_drew ?_ | refine blk_alloc ?_ _)); exact BK257.out⟩
                          have n6_ : Aside0 ((((w114.setCell ⟨gb307, 0, none⟩ (.slice Ao115 t301.length co115)).setCell ⟨gb307, 1, none⟩ (.string t304)).setCell ⟨gb307, 2, none⟩ (.bool t305)).heap[gb268]? = some (.cells #[.slice Ao12 t262.length co12, .string t265, .bool t266] 24 (0, 0))) := ⟨by (with_reducible repeat (first | refine blk_drewN ?_ _ | refine blk_drew ?_ | refine blk_alloc ?_ _)); refine blk_far ?_ NB268_307.out _; (with_reducible repeat (first | refine blk_drewN ?_ _ | refine blk_drew ?_ | refine blk_alloc ?_ _)); refine blk_far ?_ NB268_307.out _; (with_reducible repeat (first | refine blk_drewN ?_ _ | refine blk_drew ?_ | refine blk_alloc ?_ _)); refine blk_far ?_ NB268_307.out _; (with_reducible repeat (first | refine blk_drewN ?_ _ | refine blk_drew ?_ | refine blk_alloc ?_ _)); exact BK268.out⟩
                          have n7_ : Aside0 ((((w114.setCell ⟨gb307, 0, none⟩ (.slice Ao115 t301.length co115)).setCell ⟨gb307, 1, none⟩ (.string t304)).setCell ⟨gb307, 2, none⟩ (.bool t305)).heap[gb287]? = some (.cells #[.slice Ao71 t281.length co71, .string t284, .bool t285] 24 (0, 0))) := ⟨by (with_reducible repeat (first | refine blk_drewN ?_ _ | refine blk_drew ?_ | refine blk_alloc ?_ _)); refine blk_far ?_ NB287_307.out _; (with_reducible repeat (first | refine blk_drewN ?_ _ | refine blk_drew ?_ | refine blk_alloc ?_ _)); refine blk_far ?_ NB287_307.out _; (with_reducible repeat (first | refine blk_drewN ?_ _ | refine blk_drew ?_ | refine blk_alloc ?_ _)); refine blk_far ?_ NB287_307.out _; (with_reducible repeat (first | refine blk_drewN ?_ _ | refine blk_drew ?_ | refine blk_alloc ?_ _)); exact BK287.out⟩
                          have n8_ : Aside0 ((((w114.setCell ⟨gb307, 0, none⟩ (.slice Ao115 t301.length co115)).setCell ⟨gb307, 1, none⟩ (.string t304)).setCell ⟨gb307, 2, none⟩ (.bool t305)).heap[gb307]? = some (.cells #[.slice Ao115 t301.length co115, .string t304, .bool t305] 24 (0, 0))) := ⟨by (with_reducible repeat (first | refine blk_drewN ?_ _ | refine blk_drew ?_ | refine blk_alloc ?_ _)); refine blk_put (cs := #[.slice Ao115 t301.length co115, .string t304, .bool false]) ?_ 2 _ rfl; (with_reducible repeat (first | refine blk_drewN ?_ _ | refine blk_drew ?_ | refine blk_alloc ?_ _)); refine blk_put (cs := #[.slice Ao115 t301.length co115, .string (⟨#[]⟩ : ByteArray), .bool false]) ?_ 1 _ rfl; (with_reducible repeat (first | refine blk_drewN ?_ _ | refine blk_drew ?_ | refine blk_alloc ?_ _)); refine blk_put (cs := #[.slice none 0 0, .string (⟨#[]⟩ : ByteArray), .bool false]) ?_ 0 _ rfl; (with_reducible repeat (first | refine blk_drewN ?_ _ | refine blk_drew ?_ | refine blk_alloc ?_ _)); exact BK307.out⟩
                          have n9_ : Aside0 (Below w.heap.size w (((w114.setCell ⟨gb307, 0, none⟩ (.slice Ao115 t301.length co115)).setCell ⟨gb307, 1, none⟩ (.string t304)).setCell ⟨gb307, 2, none⟩ (.bool t305))) := ⟨by repeat (first | (with_reducible first | exact HB.out | apply below_alloc | apply pw_below_drewN | apply below_drew1 | refine below_set ?_ GE257.out | refine below_set ?_ GE268.out | refine below_set ?_ GE287.out | refine below_set ?_ GE307.out) | exact HB.out)⟩
                          (try clear HO_8)
                          (try clear HO_13)
                          (try clear HO_269000)
                          (try clear HO_288000)
                          (try clear HO303)
                          (try clear BK257)
                          (try clear BK268)
                          (try clear BK287)
                          (try clear BK307)
                          (try clear HB)
                          generalize (((w114.setCell ⟨gb307, 0, none⟩ (.slice Ao115 t301.length co115)).setCell ⟨gb307, 1, none⟩ (.string t304)).setCell ⟨gb307, 2, none⟩ (.bool t305)) = w131 at n0_ n1_ n2_ n3_ n4_ n5_ n6_ n7_ n8_ n9_ ⊢
                          have HO_8 := n0_
                          have HO_13 := n1_
                          have HO_269000 := n2_
                          have HO_288000 := n3_
                          have HO303 := n4_
                          have BK257 := n5_
                          have BK268 := n6_
                          have BK287 := n7_
                          have BK307 := n8_
                          have HB := n9_
                          clear n0_ n1_ n2_ n3_ n4_ n5_ n6_ n7_ n8_ n9_
                          have n0_ := Aside0.mk (Kd.R_drew HO_8.out)
                          have n1_ := Aside0.mk (Kd.B_drew HO_13.out)
                          have n2_ := Aside0.mk (Kd.R_drew HO_269000.out)
                          have n3_ := Aside0.mk (Kd.R_drew HO_288000.out)
                          have n4_ := Aside0.mk (Kd.R_drew HO303.out)
                          have n5_ := Aside0.mk (blk_drew BK257.out)
                          have n6_ := Aside0.mk (blk_drew BK268.out)
                          have n7_ := Aside0.mk (blk_drew BK287.out)
                          have n8_ := Aside0.mk (blk_drew BK307.out)
                          have n9_ := Aside0.mk (below_drew1 HB.out)
                          clear HO_8
                          clear HO_13
                          clear HO_269000
                          clear HO_288000
                          clear HO303
                          clear BK257
                          clear BK268
                          clear BK287
                          clear BK307
                          clear HB
                          have HO_8 := n0_
                          have HO_13 := n1_
                          have HO_269000 := n2_
                          have HO_288000 := n3_
                          have HO303 := n4_
                          have BK257 := n5_
                          have BK268 := n6_
                          have BK287 := n7_
                          have BK307 := n8_
                          have HB := n9_
                          clear n0_ n1_ n2_ n3_ n4_ n5_ n6_ n7_ n8_ n9_
                          have p309 : 0 ≤ ((ji125) : Int) := od
                          have q309 : (ji125) < (t301.length : Int) := od
                          obtain ⟨ad309, e309, hx309_0, hx309_1, hx309_2⟩ := at_T41 (Kd.R_reads' HO303.out).2.2 (ji125) p309 q309
                          cases e309
                          replace p309 := eq_true p309
                          replace q309 := eq_true q309
                          have p310 : 0 ≤ ((ji125) : Int) := od
                          have q310 : (ji125) < (t259.length : Int) := od
                          obtain ⟨Ao_n, co_n, eo_n⟩ := Kd.R_slice HO_8.out
                          subst eo_n
                          obtain ⟨ad310, e310, hx310_0⟩ := Kd.at_string (Kd.R_reads' HO_8.out).2.2 (ji125) p310 q310
                          cases e310
                          replace p310 := eq_true p310
                          replace q310 := eq_true q310
                          have p311 : 0 ≤ ((ji125) : Int) := od
                          have q311 : (ji125) < (t301.length : Int) := od
                          obtain ⟨ad311, e311, hx311_0, hx311_1, hx311_2⟩ := at_T41 (Kd.R_reads' HO303.out).2.2 (ji125) p311 q311
                          obtain rfl : ad309 = ad311 := (by injection e311)
                          replace p311 := eq_true p311
                          replace q311 := eq_true q311
                          refine start_ (n := 48) (S := fun w' => w'.cell? ⟨gb307, 0, none⟩ = some (.slice (some ad309) t301.length co115) ∧ w'.cell? ⟨gb307, 1, none⟩ = some (.string t304) ∧ w'.cell? ⟨gb307, 2, none⟩ = some (.bool t305) ∧ w'.cell? ⟨gb268, 0, none⟩ = some (.slice Ao12 t262.length co12) ∧ w'.cell? ⟨gb268, 1, none⟩ = some (.string t265) ∧ w'.cell? ⟨gb268, 2, none⟩ = some (.bool t266) ∧ w'.cell? (ad309.add (((ji125)).toNat * 3)) = some (.string ((rd_T41 t301 (ji125)).f0)) ∧ w'.cell? ⟨(ad309.add (((ji125)).toNat * 3)).block, (ad309.add (((ji125)).toNat * 3)).off + 1, none⟩ = some (.string ((rd_T41 t301 (ji125)).f1)) ∧ w'.cell? ⟨(ad309.add (((ji125)).toNat * 3)).block, (ad309.add (((ji125)).toNat * 3)).off + 2, none⟩ = some (.string ((rd_T41 t301 (ji125)).f2)) ∧ w'.cell? (ad310.add ((ji125)).toNat) = some (.string (rdOf ByteArray.empty t259 (ji125))) ∧ w'.cell? (ad309.add (((ji125)).toNat * 3)) = some (.string ((rd_T41 t301 (ji125)).f0)) ∧ w'.cell? ⟨(ad309.add (((ji125)).toNat * 3)).block, (ad309.add (((ji125)).toNat * 3)).off + 1, none⟩ = some (.string ((rd_T41 t301 (ji125)).f1)) ∧ w'.cell? ⟨(ad309.add (((ji125)).toNat * 3)).block, (ad309.add (((ji125)).toNat * 3)).off + 2, none⟩ = some (.string ((rd_T41 t301 (ji125)).f2)) ∧ (convert 39 9 (.slice Ao57 x13_3.length co57)).run Tryd.prog w' = .ok (.string (strOfNums x13_3)) w') (ds := []) #[false, false, false, false, false, false, false, false, false, false, false, false, false, false, false, false, false, false, false, false, false, false, false, false, false, false, false, false, false, false, false, false, false, false, false, false, false, false, false, false, false, false, false, false, false, false, false, false] (by kernel_rfl) rfl rfl ⟨(blk_cell BK307.out 0).trans rfl, (blk_cell BK307.out 1).trans rfl, (blk_cell BK307.out 2).trans rfl, (blk_cell BK268.out 0).trans rfl, (blk_cell BK268.out 1).trans rfl, (blk_cell BK268.out 2).trans rfl, hx309_0, hx309_1, hx309_2, hx310_0, hx311_0, hx311_1, hx311_2, Kd.B_string (P := Tryd.prog) Tryd.underlying39 Tryd.underlying5 Tryd.underlying9 HO_13.out⟩ (fun hHeld => ?_); refine with_tabW postriderlaw07_HeadBytes.tab25 postriderlaw07_HeadBytes.bits25 (fun HT_ HW_ => ?_)
                          generalize w131.drew = w132 at HO_8 HO_13 HO_269000 HO_288000 HO303 BK257 BK268 BK287 BK307 HB hx309_0 hx309_1 hx309_2 hx310_0 hx311_0 hx311_1 hx311_2 hHeld ⊢
                          refine pure_ (i := 0) (N := some 179) (v := ?_) (a' := ?_) #[true, false, false, false, false, false, false, false, false, false, false, false, false, false, false, false, false, false, false, false, false, false, false, false, false, false, false, false, false, false, false, false, false, false, false, false, false, false, false, false, false, false, false, false, false, false, false, false] rfl rfl (any_of HT_.out (by kernel_rfl)) (fun _ _ _ h => h) (Or.inl ⟨by rfl, ?_⟩) ?_ ?_
                          rotate_left
                          ·intro w'
                           go_simp
                           with_reducible rfl
                          rotate_left
                          ·simp only [Act.put, List.setIfInBounds_toArray, List.set_cons_zero, List.set_cons_succ, i64_w, i32_w]
                           rfl
                          refine pure_ (i := 1) (N := some 180) (v := ?_) (a' := ?_) #[true, true, false, false, false, false, false, false, false, false, false, false, false, false, false, false, false, false, false, false, false, false, false, false, false, false, false, false, false, false, false, false, false, false, false, false, false, false, false, false, false, false, false, false, false, false, false, false] rfl rfl (any_of HT_.out (by kernel_rfl)) (fun _ _ _ h => h) (Or.inl ⟨by rfl, ?_⟩) ?_ ?_
                          rotate_left
                          ·intro w'
                           go_simp
                           with_reducible rfl
                          rotate_left
                          ·simp only [Act.put, List.setIfInBounds_toArray, List.set_cons_zero, List.set_cons_succ, i64_w, i32_w]
                           rfl
                          refine pure_ (i := 2) (N := some 181) (v := ?_) (a' := ?_) #[true, true, true, false, false, false, false, false, false, false, false, false, false, false, false, false, false, false, false, false, false, false, false, false, false, false, false, false, false, false, false, false, false, false, false, false, false, false, false, false, false, false, false, false, false, false, false, false] rfl rfl (any_of HT_.out (by kernel_rfl)) (fun _ _ _ h => h) (Or.inl ⟨by rfl, ?_⟩) ?_ ?_
                          rotate_left
                          ·intro w'
                           go_simp
                           with_reducible rfl
                          rotate_left
                          ·simp only [Act.put, List.setIfInBounds_toArray, List.set_cons_zero, List.set_cons_succ, i64_w, i32_w]
                           rfl
                          refine take_ (i := 3) (N := some 182) (v := ?_) (a' := ?_) #[true, true, true, true, false, false, false, false, false, false, false, false, false, false, false, false, false, false, false, false, false, false, false, false, false, false, false, false, false, false, false, false, false, false, false, false, false, false, false, false, false, false, false, false, false, false, false, false] rfl rfl (take_ofW HT_.out HW_.out (by kernel_rfl)) (fun _ _ _ h => h) (Or.inl ⟨by rfl, ?_⟩) hHeld ?_ ?_
                          rotate_left
                          ·rintro w' ⟨s0, s1, s2, s3, s4, s5, s6, s7, s8, s9, s10, s11, s12, s13⟩
                           go_simp
                           with_reducible rfl
                          rotate_left
                          ·simp only [Act.put, List.setIfInBounds_toArray, List.set_cons_zero, List.set_cons_succ, i64_w, i32_w]
                           rfl
                          refine one_ (i := 4) (N := some 183) #[true, true, true, true, true, false, false, false, false, false, false, false, false, false, false, false, false, false, false, false, false, false, false, false, false, false, false, false, false, false, false, false, false, false, false, false, false, false, false, false, false, false, false, false, false, false, false, false] rfl rfl (one_of HT_.out (by kernel_rfl)) (by decide) (fun K hK => ?_)
                          refine goes_ Tryd.func23 (by kernel_rfl) rfl #[.agg #[.slice (some ad309) t301.length co115, .string t304, .bool t305]] (by rfl) rfl rfl ml ?_
                          with_reducible refine (head_Message_May.calls kj64 _ _ t301 t304 t305 true _ ?side1 ?side2 ?side3 A121.out).mono ?_
                          (case side1 => repeat (first | exact (Kd.R_reads' HO303.out).2.2 | (with_reducible refine Kd.C_alloc ?_ _) | (with_reducible refine Kd.C_drewN ?_ _) | (with_reducible refine Kd.C_drew ?_)))
                          (case side2 => exact (Kd.R_reads' HO303.out).2.1)
                          (case side3 => exact Glob.below HG.out bl)
                          rintro e w133 ⟨rfl, hb⟩
                          have HS6_ := (hb.cell (World.block_lt_of_cell? _ _ (hHeld.2.2.2.2.2.2.1))).trans (hHeld.2.2.2.2.2.2.1)
                          have HS7_ := (hb.cell (World.block_lt_of_cell? _ _ (hHeld.2.2.2.2.2.2.2.1))).trans (hHeld.2.2.2.2.2.2.2.1)
                          have HS8_ := (hb.cell (World.block_lt_of_cell? _ _ (hHeld.2.2.2.2.2.2.2.2.1))).trans (hHeld.2.2.2.2.2.2.2.2.1)
                          have HS9_ := (hb.cell (World.block_lt_of_cell? _ _ (hHeld.2.2.2.2.2.2.2.2.2.1))).trans (hHeld.2.2.2.2.2.2.2.2.2.1)
                          have HS10_ := (hb.cell (World.block_lt_of_cell? _ _ (hHeld.2.2.2.2.2.2.2.2.2.2.1))).trans (hHeld.2.2.2.2.2.2.2.2.2.2.1)
                          have HS11_ := (hb.cell (World.block_lt_of_cell? _ _ (hHeld.2.2.2.2.2.2.2.2.2.2.2.1))).trans (hHeld.2.2.2.2.2.2.2.2.2.2.2.1)
                          have HS12_ := (hb.cell (World.block_lt_of_cell? _ _ (hHeld.2.2.2.2.2.2.2.2.2.2.2.2.1))).trans (hHeld.2.2.2.2.2.2.2.2.2.2.2.2.1)
                          refine ⟨_, rfl, ?_⟩
                          have n0_ := Aside0.mk (Kd.R_below (kr HO_8.out) hb)
                          have n1_ := Aside0.mk (Kd.B_below (by (with_reducible repeat (first | apply Kd.B_alloc | apply Kd.B_drewN | apply Kd.B_drew)); exact HO_13.out) hb)
                          have n2_ := Aside0.mk (Kd.R_below (kr HO_269000.out) hb)
                          have n3_ := Aside0.mk (Kd.R_below (kr HO_288000.out) hb)
                          have n4_ := Aside0.mk (Kd.R_below (kr HO303.out) hb)
                          have n5_ := Aside0.mk (kb BK257.out hb)
                          have n6_ := Aside0.mk (kb BK268.out hb)
                          have n7_ := Aside0.mk (kb BK287.out hb)
                          have n8_ := Aside0.mk (kb BK307.out hb)
                          have n9_ := Aside0.mk (below_step bl hb)
                          clear HO_8
                          clear HO_13
                          clear HO_269000
                          clear HO_288000
                          clear HO303
                          clear BK257
                          clear BK268
                          clear BK287
                          clear BK307
                          clear HB
                          have HO_8 := n0_
                          have HO_13 := n1_
                          have HO_269000 := n2_
                          have HO_288000 := n3_
                          have HO303 := n4_
                          have BK257 := n5_
                          have BK268 := n6_
                          have BK287 := n7_
                          have BK307 := n8_
                          have HB := n9_
                          clear n0_ n1_ n2_ n3_ n4_ n5_ n6_ n7_ n8_ n9_
                          (try clear hb)
                          (try clear hb2)
                          (try clear hk)
                          (try clear hi)
                          obtain ⟨Ao134, co134, eo134⟩ := Kd.R_slice HO_8.out
                          (first | subst eo134 | (injection eo134 with f1_ f2_ f3_; have f4_ := f1_.symm; have f5_ := f3_.symm; clear f1_ f2_ f3_; subst f4_; subst f5_))
                          refine hK.out _ _ ⟨(blk_cell BK307.out 0).trans rfl, (blk_cell BK307.out 1).trans rfl, (blk_cell BK307.out 2).trans rfl, (blk_cell BK268.out 0).trans rfl, (blk_cell BK268.out 1).trans rfl, (blk_cell BK268.out 2).trans rfl, HS6_, HS7_, HS8_, HS9_, HS10_, HS11_, HS12_, Kd.B_string (P := Tryd.prog) Tryd.underlying39 Tryd.underlying5 Tryd.underlying9 HO_13.out⟩ (fun hHeld => ?_)
                          clear hK K
                          refine norm_ (a' := ?_) ?_ ?_
                          rotate_left
                          ·show Act.put _ (some 183) _ = _
                           simp only [Act.put, List.setIfInBounds_toArray, List.set_cons_zero, List.set_cons_succ, i64_w, i32_w]
                           rfl
                          refine pure_ (i := 5) (N := some 184) (v := ?_) (a' := ?_) #[true, true, true, true, true, true, false, false, false, false, false, false, false, false, false, false, false, false, false, false, false, false, false, false, false, false, false, false, false, false, false, false, false, false, false, false, false, false, false, false, false, false, false, false, false, false, false, false] rfl rfl (any_of HT_.out (by kernel_rfl)) (fun _ _ _ h => h) (Or.inl ⟨by rfl, ?_⟩) ?_ ?_
                          rotate_left
                          ·intro w'
                           go_simp
                           with_reducible rfl
                          rotate_left
                          ·simp only [Act.put, List.setIfInBounds_toArray, List.set_cons_zero, List.set_cons_succ, i64_w, i32_w]
                           rfl
                          refine pure_ (i := 6) (N := some 185) (v := ?_) (a' := ?_) #[true, true, true, true, true, true, true, false, false, false, false, false, false, false, false, false, false, false, false, false, false, false, false, false, false, false, false, false, false, false, false, false, false, false, false, false, false, false, false, false, false, false, false, false, false, false, false, false] rfl rfl (any_of HT_.out (by kernel_rfl)) (fun _ _ _ h => h) (Or.inl ⟨by rfl, ?_⟩) ?_ ?_
                          rotate_left
                          ·intro w'
                           go_simp
                           with_reducible rfl
                          rotate_left
                          ·simp only [Act.put, List.setIfInBounds_toArray, List.set_cons_zero, List.set_cons_succ, i64_w, i32_w]
                           rfl
                          refine pure_ (i := 7) (N := some 186) (v := ?_) (a' := ?_) #[true, true, true, true, true, true, true, true, false, false, false, false, false, false, false, false, false, false, false, false, false, false, false, false, false, false, false, false, false, false, false, false, false, false, false, false, false, false, false, false, false, false, false, false, false, false, false, false] rfl rfl (any_of HT_.out (by kernel_rfl)) (fun _ _ _ h => h) (Or.inl ⟨by rfl, ?_⟩) ?_ ?_
                          rotate_left
                          ·intro w'
                           go_simp
                           with_reducible rfl
                          rotate_left
                          ·simp only [Act.put, List.setIfInBounds_toArray, List.set_cons_zero, List.set_cons_succ, i64_w, i32_w]
                           rfl
                          refine pure_ (i := 8) (N := some 187) (v := ?_) (a' := ?_) #[true, true, true, true, true, true, true, true, true, false, false, false, false, false, false, false, false, false, false, false, false, false, false, false, false, false, false, false, false, false, false, false, false, false, false, false, false, false, false, false, false, false, false, false, false, false, false, false] rfl rfl (any_of HT_.out (by kernel_rfl)) (fun _ _ _ h => h) (Or.inl ⟨by rfl, ?_⟩) ?_ ?_
                          rotate_left
                          ·intro w'
                           go_simp
                           with_reducible rfl
                          rotate_left
                          ·simp only [Act.put, List.setIfInBounds_toArray, List.set_cons_zero, List.set_cons_succ, i64_w, i32_w]
                           rfl
                          refine pure_ (i := 10) (N := some 189) (v := ?_) (a' := ?_) #[true, true, true, true, true, true, true, true, true, false, true, false, false, false, false, false, false, false, false, false, false, false, false, false, false, false, false, false, false, false, false, false, false, false, false, false, false, false, false, false, false, false, false, false, false, false, false, false] rfl rfl (any_of HT_.out (by kernel_rfl)) (fun _ _ _ h => h) (Or.inl ⟨by rfl, ?_⟩) ?_ ?_
                          rotate_left
                          ·intro w'
                           go_simp
                           with_reducible rfl
                          rotate_left
                          ·simp only [Act.put, List.setIfInBounds_toArray, List.set_cons_zero, List.set_cons_succ, i64_w, i32_w]
                           rfl
                          refine take_ (i := 9) (N := some 188) (v := ?_) (a' := ?_) #[true, true, true, true, true, true, true, true, true, true, true, false, false, false, false, false, false, false, false, false, false, false, false, false, false, false, false, false, false, false, false, false, false, false, false, false, false, false, false, false, false, false, false, false, false, false, false, false] rfl rfl (take_ofW HT_.out HW_.out (by kernel_rfl)) (fun _ _ _ h => h) (Or.inl ⟨by rfl, ?_⟩) hHeld ?_ ?_
                          rotate_left
                          ·rintro w' ⟨s0, s1, s2, s3, s4, s5, s6, s7, s8, s9, s10, s11, s12, s13⟩
                           go_simp
                           with_reducible rfl
                          rotate_left
                          ·simp only [Act.put, List.setIfInBounds_toArray, List.set_cons_zero, List.set_cons_succ, i64_w, i32_w]
                           rfl
                          refine take_ (i := 11) (N := some 190) (v := ?_) (a' := ?_) #[true, true, true, true, true, true, true, true, true, true, true, true, false, false, false, false, false, false, false, false, false, false, false, false, false, false, false, false, false, false, false, false, false, false, false, false, false, false, false, false, false, false, false, false, false, false, false, false] rfl rfl (take_ofW HT_.out HW_.out (by kernel_rfl)) (fun _ _ _ h => h) (Or.inl ⟨by rfl, ?_⟩) hHeld ?_ ?_
                          rotate_left
                          ·rintro w' ⟨s0, s1, s2, s3, s4, s5, s6, s7, s8, s9, s10, s11, s12, s13⟩
                           go_simp
                           with_reducible rfl
                          rotate_left
                          ·simp only [Act.put, List.setIfInBounds_toArray, List.set_cons_zero, List.set_cons_succ, i64_w, i32_w]
                           rfl
                          refine pure_ (i := 12) (N := some 191) (v := ?_) (a' := ?_) #[true, true, true, true, true, true, true, true, true, true, true, true, true, false, false, false, false, false, false, false, false, false, false, false, false, false, false, false, false, false, false, false, false, false, false, false, false, false, false, false, false, false, false, false, false, false, false, false] rfl rfl (any_of HT_.out (by kernel_rfl)) (fun _ _ _ h => h) (Or.inl ⟨by rfl, ?_⟩) ?_ ?_
                          rotate_left
                          ·intro w'
                           go_simp
                           with_reducible rfl
                          rotate_left
                          ·simp only [Act.put, List.setIfInBounds_toArray, List.set_cons_zero, List.set_cons_succ, i64_w, i32_w]
                           rfl
                          refine pure_ (i := 13) (N := some 192) (v := ?_) (a' := ?_) #[true, true, true, true, true, true, true, true, true, true, true, true, true, true, false, false, false, false, false, false, false, false, false, false, false, false, false, false, false, false, false, false, false, false, false, false, false, false, false, false, false, false, false, false, false, false, false, false] rfl rfl (any_of HT_.out (by kernel_rfl)) (fun _ _ _ h => h) (Or.inl ⟨by rfl, ?_⟩) ?_ ?_
                          rotate_left
                          ·intro w'
                           go_simp
                           with_reducible rfl
                          rotate_left
                          ·simp only [Act.put, List.setIfInBounds_toArray, List.set_cons_zero, List.set_cons_succ, i64_w, i32_w]
                           rfl
                          refine pure_ (i := 14) (N := some 193) (v := ?_) (a' := ?_) #[true, true, true, true, true, true, true, true, true, true, true, true, true, true, true, false, false, false, false, false, false, false, false, false, false, false, false, false, false, false, false, false, false, false, false, false, false, false, false, false, false, false, false, false, false, false, false, false] rfl rfl (any_of HT_.out (by kernel_rfl)) (fun _ _ _ h => h) (Or.inl ⟨by rfl, ?_⟩) ?_ ?_
                          rotate_left
                          ·intro w'
                           go_simp
                           with_reducible rfl
                          rotate_left
                          ·simp only [Act.put, List.setIfInBounds_toArray, List.set_cons_zero, List.set_cons_succ, i64_w, i32_w]
                           rfl
                          refine pure_ (i := 15) (N := some 194) (v := ?_) (a' := ?_) #[true, true, true, true, true, true, true, true, true, true, true, true, true, true, true, true, false, false, false, false, false, false, false, false, false, false, false, false, false, false, false, false, false, false, false, false, false, false, false, false, false, false, false, false, false, false, false, false] rfl rfl (any_of HT_.out (by kernel_rfl)) (fun _ _ _ h => h) (Or.inl ⟨by rfl, ?_⟩) ?_ ?_
                          rotate_left
                          ·intro w'
                           go_simp
                           with_reducible rfl
                          rotate_left
                          ·simp only [Act.put, List.setIfInBounds_toArray, List.set_cons_zero, List.set_cons_succ, i64_w, i32_w]
                           rfl
                          refine pure_ (i := 18) (N := some 197) (v := ?_) (a' := ?_) #[true, true, true, true, true, true, true, true, true, true, true, true, true, true, true, true, false, false, true, false, false, false, false, false, false, false, false, false, false, false, false, false, false, false, false, false, false, false, false, false, false, false, false, false, false, false, false, false] rfl rfl (any_of HT_.out (by kernel_rfl)) (fun _ _ _ h => h) (Or.inl ⟨by rfl, ?_⟩) ?_ ?_
                          rotate_left
                          ·intro w'
                           go_simp
                           with_reducible rfl
                          rotate_left
                          ·simp only [Act.put, List.setIfInBounds_toArray, List.set_cons_zero, List.set_cons_succ, i64_w, i32_w]
                           rfl
                          refine take_ (i := 16) (N := some 195) (v := ?_) (a' := ?_) #[true, true, true, true, true, true, true, true, true, true, true, true, true, true, true, true, true, false, true, false, false, false, false, false, false, false, false, false, false, false, false, false, false, false, false, false, false, false, false, false, false, false, false, false, false, false, false, false] rfl rfl (take_ofW HT_.out HW_.out (by kernel_rfl)) (fun _ _ _ h => h) (Or.inl ⟨by rfl, ?_⟩) hHeld ?_ ?_
                          rotate_left
                          ·rintro w' ⟨s0, s1, s2, s3, s4, s5, s6, s7, s8, s9, s10, s11, s12, s13⟩
                           go_simp
                           with_reducible rfl
                          rotate_left
                          ·simp only [Act.put, List.setIfInBounds_toArray, List.set_cons_zero, List.set_cons_succ, i64_w, i32_w]
                           rfl
                          refine pure_ (i := 17) (N := some 196) (v := ?_) (a' := ?_) #[true, true, true, true, true, true, true, true, true, true, true, true, true, true, true, true, true, true, true, false, false, false, false, false, false, false, false, false, false, false, false, false, false, false, false, false, false, false, false, false, false, false, false, false, false, false, false, false] rfl rfl (any_of HT_.out (by kernel_rfl)) (fun _ _ _ h => h) (Or.inl ⟨by rfl, ?_⟩) ?_ ?_
                          rotate_left
                          ·intro w'
                           go_simp
                           with_reducible rfl
                          rotate_left
                          ·simp only [Act.put, List.setIfInBounds_toArray, List.set_cons_zero, List.set_cons_succ, i64_w, i32_w]
                           rfl
                          refine take_ (i := 19) (N := some 198) (v := ?_) (a' := ?_) #[true, true, true, true, true, true, true, true, true, true, true, true, true, true, true, true, true, true, true, true, false, false, false, false, false, false, false, false, false, false, false, false, false, false, false, false, false, false, false, false, false, false, false, false, false, false, false, false] rfl rfl (take_ofW HT_.out HW_.out (by kernel_rfl)) (fun _ _ _ h => h) (Or.inl ⟨by rfl, ?_⟩) hHeld ?_ ?_
                          rotate_left
                          ·rintro w' ⟨s0, s1, s2, s3, s4, s5, s6, s7, s8, s9, s10, s11, s12, s13⟩
                           go_simp
                           with_reducible rfl
                          rotate_left
                          ·simp only [Act.put, List.setIfInBounds_toArray, List.set_cons_zero, List.set_cons_succ, i64_w, i32_w]
                           rfl
                          refine pure_ (i := 20) (N := some 199) (v := ?_) (a' := ?_) #[true, true, true, true, true, true, true, true, true, true, true, true, true, true, true, true, true, true, true, true, true, false, false, false, false, false, false, false, false, false, false, false, false, false, false, false, false, false, false, false, false, false, false, false, false, false, false, false] rfl rfl (any_of HT_.out (by kernel_rfl)) (fun _ _ _ h => h) (Or.inl ⟨by rfl, ?_⟩) ?_ ?_
                          rotate_left
                          ·intro w'
                           go_simp
                           with_reducible rfl
                          rotate_left
                          ·simp only [Act.put, List.setIfInBounds_toArray, List.set_cons_zero, List.set_cons_succ, i64_w, i32_w]
                           rfl
                          refine pure_ (i := 21) (N := some 200) (v := ?_) (a' := ?_) #[true, true, true, true, true, true, true, true, true, true, true, true, true, true, true, true, true, true, true, true, true, true, false, false, false, false, false, false, false, false, false, false, false, false, false, false, false, false, false, false, false, false, false, false, false, false, false, false] rfl rfl (any_of HT_.out (by kernel_rfl)) (fun _ _ _ h => h) (Or.inl ⟨by rfl, ?_⟩) ?_ ?_
                          rotate_left
                          ·intro w'
                           go_simp
                           with_reducible rfl
                          rotate_left
                          ·simp only [Act.put, List.setIfInBounds_toArray, List.set_cons_zero, List.set_cons_succ, i64_w, i32_w]
                           rfl
                          refine pure_ (i := 22) (N := some 201) (v := ?_) (a' := ?_) #[true, true, true, true, true, true, true, true, true, true, true, true, true, true, true, true, true, true, true, true, true, true, true, false, false, false, false, false, false, false, false, false, false, false, false, false, false, false, false, false, false, false, false, false, false, false, false, false] rfl rfl (any_of HT_.out (by kernel_rfl)) (fun _ _ _ h => h) (Or.inl ⟨by rfl, ?_⟩) ?_ ?_
                          rotate_left
                          ·intro w'
                           go_simp
                           with_reducible rfl
                          rotate_left
                          ·simp only [Act.put, List.setIfInBounds_toArray, List.set_cons_zero, List.set_cons_succ, i64_w, i32_w]
                           rfl
                          refine pure_ (i := 23) (N := some 202) (v := ?_) (a' := ?_) #[true, true, true, true, true, true, true, true, true, true, true, true, true, true, true, true, true, true, true, true, true, true, true, true, false, false, false, false, false, false, false, false, false, false, false, false, false, false, false, false, false, false, false, false, false, false, false, false] rfl rfl (any_of HT_.out (by kernel_rfl)) (fun _ _ _ h => h) (Or.inl ⟨by rfl, ?_⟩) ?_ ?_
                          rotate_left
                          ·intro w'
                           go_simp
                           with_reducible rfl
                          rotate_left
                          ·simp only [Act.put, List.setIfInBounds_toArray, List.set_cons_zero, List.set_cons_succ, i64_w, i32_w]
                           rfl
                          refine pure_ (i := 24) (N := some 203) (v := ?_) (a' := ?_) #[true, true, true, true, true, true, true, true, true, true, true, true, true, true, true, true, true, true, true, true, true, true, true, true, true, false, false, false, false, false, false, false, false, false, false, false, false, false, false, false, false, false, false, false, false, false, false, false] rfl rfl (any_of HT_.out (by kernel_rfl)) (fun _ _ _ h => h) (Or.inl ⟨by rfl, ?_⟩) ?_ ?_
                          rotate_left
                          ·intro w'
                           go_simp
                           with_reducible rfl
                          rotate_left
                          ·simp only [Act.put, List.setIfInBounds_toArray, List.set_cons_zero, List.set_cons_succ, i64_w, i32_w]
                           rfl
                          refine pure_ (i := 26) (N := some 205) (v := ?_) (a' := ?_) #[true, true, true, true, true, true, true, true, true, true, true, true, true, true, true, true, true, true, true, true, true, true, true, true, true, false, true, false, false, false, false, false, false, false, false, false, false, false, false, false, false, false, false, false, false, false, false, false] rfl rfl (any_of HT_.out (by kernel_rfl)) (fun _ _ _ h => h) (Or.inl ⟨by rfl, ?_⟩) ?_ ?_
                          rotate_left
                          ·intro w'
                           go_simp
                           with_reducible rfl
                          rotate_left
                          ·simp only [Act.put, List.setIfInBounds_toArray, List.set_cons_zero, List.set_cons_succ, i64_w, i32_w]
                           rfl
                          refine pure_ (i := 30) (N := some 209) (v := ?_) (a' := ?_) #[true, true, true, true, true, true, true, true, true, true, true, true, true, true, true, true, true, true, true, true, true, true, true, true, true, false, true, false, false, false, true, false, false, false, false, false, false, false, false, false, false, false, false, false, false, false, false, false] rfl rfl (any_of HT_.out (by kernel_rfl)) (fun _ _ _ h => h) (Or.inl ⟨by rfl, ?_⟩) ?_ ?_
                          rotate_left
                          ·intro w'
                           go_simp
                           with_reducible rfl
                          rotate_left
                          ·simp only [Act.put, List.setIfInBounds_toArray, List.set_cons_zero, List.set_cons_succ, i64_w, i32_w]
                           rfl
                          refine pure_ (i := 31) (N := some 210) (v := ?_) (a' := ?_) #[true, true, true, true, true, true, true, true, true, true, true, true, true, true, true, true, true, true, true, true, true, true, true, true, true, false, true, false, false, false, true, true, false, false, false, false, false, false, false, false, false, false, false, false, false, false, false, false] rfl rfl (any_of HT_.out (by kernel_rfl)) (fun _ _ _ h => h) (Or.inl ⟨by rfl, ?_⟩) ?_ ?_
                          rotate_left
                          ·intro w'
                           go_simp
                           with_reducible rfl
                          rotate_left
                          ·simp only [Act.put, List.setIfInBounds_toArray, List.set_cons_zero, List.set_cons_succ, i64_w, i32_w]
                           rfl
                          refine pure_ (i := 32) (N := some 211) (v := ?_) (a' := ?_) #[true, true, true, true, true, true, true, true, true, true, true, true, true, true, true, true, true, true, true, true, true, true, true, true, true, false, true, false, false, false, true, true, true, false, false, false, false, false, false, false, false, false, false, false, false, false, false, false] rfl rfl (any_of HT_.out (by kernel_rfl)) (fun _ _ _ h => h) (Or.inl ⟨by rfl, ?_⟩) ?_ ?_
                          rotate_left
                          ·intro w'
                           go_simp
                           with_reducible rfl
                          rotate_left
                          ·simp only [Act.put, List.setIfInBounds_toArray, List.set_cons_zero, List.set_cons_succ, i64_w, i32_w]
                           rfl
                          refine take_ (i := 25) (N := some 204) (v := ?_) (a' := ?_) #[true, true, true, true, true, true, true, true, true, true, true, true, true, true, true, true, true, true, true, true, true, true, true, true, true, true, true, false, false, false, true, true, true, false, false, false, false, false, false, false, false, false, false, false, false, false, false, false] rfl rfl (take_ofW HT_.out HW_.out (by kernel_rfl)) (fun _ _ _ h => h) (Or.inl ⟨by rfl, ?_⟩) hHeld ?_ ?_
                          rotate_left
                          ·rintro w' ⟨s0, s1, s2, s3, s4, s5, s6, s7, s8, s9, s10, s11, s12, s13⟩
                           go_simp
                           with_reducible rfl
                          rotate_left
                          ·simp only [Act.put, List.setIfInBounds_toArray, List.set_cons_zero, List.set_cons_succ, i64_w, i32_w]
                           rfl
                          refine pure_ (i := 27) (N := some 206) (v := ?_) (a' := ?_) #[true, true, true, true, true, true, true, true, true, true, true, true, true, true, true, true, true, true, true, true, true, true, true, true, true, true, true, true, false, false, true, true, true, false, false, false, false, false, false, false, false, false, false, false, false, false, false, false] rfl rfl (any_of HT_.out (by kernel_rfl)) (fun _ _ _ h => h) (Or.inl ⟨by rfl, ?_⟩) ?_ ?_
                          rotate_left
                          ·intro w'
                           go_simp
                           with_reducible rfl
                          rotate_left
                          ·simp only [Act.put, List.setIfInBounds_toArray, List.set_cons_zero, List.set_cons_succ, i64_w, i32_w]
                           rfl
                          refine pure_ (i := 28) (N := some 207) (v := ?_) (a' := ?_) #[true, true, true, true, true, true, true, true, true, true, true, true, true, true, true, true, true, true, true, true, true, true, true, true, true, true, true, true, true, false, true, true, true, false, false, false, false, false, false, false, false, false, false, false, false, false, false, false] rfl rfl (any_of HT_.out (by kernel_rfl)) (fun _ _ _ h => h) (Or.inl ⟨by rfl, ?_⟩) ?_ ?_
                          rotate_left
                          ·intro w'
                           go_simp
                           with_reducible rfl
                          rotate_left
                          ·simp only [Act.put, List.setIfInBounds_toArray, List.set_cons_zero, List.set_cons_succ, i64_w, i32_w]
                           rfl
                          refine take_ (i := 29) (N := some 208) (v := ?_) (a' := ?_) #[true, true, true, true, true, true, true, true, true, true, true, true, true, true, true, true, true, true, true, true, true, true, true, true, true, true, true, true, true, true, true, true, true, false, false, false, false, false, false, false, false, false, false, false, false, false, false, false] rfl rfl (take_ofW HT_.out HW_.out (by kernel_rfl)) (fun _ _ _ h => h) (Or.inl ⟨by rfl, ?_⟩) hHeld ?_ ?_
                          rotate_left
                          ·rintro w' ⟨s0, s1, s2, s3, s4, s5, s6, s7, s8, s9, s10, s11, s12, s13⟩
                           go_simp
                           with_reducible rfl
                          rotate_left
                          ·simp only [Act.put, List.setIfInBounds_toArray, List.set_cons_zero, List.set_cons_succ, i64_w, i32_w]
                           rfl
                          refine take_ (i := 33) (N := some 212) (v := ?_) (a' := ?_) #[true, true, true, true, true, true, true, true, true, true, true, true, true, true, true, true, true, true, true, true, true, true, true, true, true, true, true, true, true, true, true, true, true, true, false, false, false, false, false, false, false, false, false, false, false, false, false, false] rfl rfl (take_ofW HT_.out HW_.out (by kernel_rfl)) (fun _ _ _ h => h) (Or.inl ⟨by rfl, ?_⟩) hHeld ?_ ?_
                          rotate_left
                          ·rintro w' ⟨s0, s1, s2, s3, s4, s5, s6, s7, s8, s9, s10, s11, s12, s13⟩
                           go_simp
                           with_reducible rfl
                          rotate_left
                          ·simp only [Act.put, List.setIfInBounds_toArray, List.set_cons_zero, List.set_cons_succ, i64_w, i32_w]
                           rfl
                          refine pure_ (i := 34) (N := some 213) (v := ?_) (a' := ?_) #[true, true, true, true, true, true, true, true, true, true, true, true, true, true, true, true, true, true, true, true, true, true, true, true, true, true, true, true, true, true, true, true, true, true, true, false, false, false, false, false, false, false, false, false, false, false, false, false] rfl rfl (any_of HT_.out (by kernel_rfl)) (fun _ _ _ h => h) (Or.inl ⟨by rfl, ?_⟩) ?_ ?_
                          rotate_left
                          ·intro w'
                           go_simp
                           with_reducible rfl
                          rotate_left
                          ·simp only [Act.put, List.setIfInBounds_toArray, List.set_cons_zero, List.set_cons_succ, i64_w, i32_w]
                           rfl
                          refine pure_ (i := 35) (N := some 214) (v := ?_) (a' := ?_) #[true, true, true, true, true, true, true, true, true, true, true, true, true, true, true, true, true, true, true, true, true, true, true, true, true, true, true, true, true, true, true, true, true, true, true, true, false, false, false, false, false, false, false, false, false, false, false, false] rfl rfl (any_of HT_.out (by kernel_rfl)) (fun _ _ _ h => h) (Or.inl ⟨by rfl, ?_⟩) ?_ ?_
                          rotate_left
                          ·intro w'
                           go_simp
                           with_reducible rfl
                          rotate_left
                          ·simp only [Act.put, List.setIfInBounds_toArray, List.set_cons_zero, List.set_cons_succ, i64_w, i32_w]
                           rfl
                          refine pure_ (i := 36) (N := some 215) (v := ?_) (a' := ?_) #[true, true, true, true, true, true, true, true, true, true, true, true, true, true, true, true, true, true, true, true, true, true, true, true, true, true, true, true, true, true, true, true, true, true, true, true, true, false, false, false, false, false, false, false, false, false, false, false] rfl rfl (any_of HT_.out (by kernel_rfl)) (fun _ _ _ h => h) (Or.inl ⟨by rfl, ?_⟩) ?_ ?_
                          rotate_left
                          ·intro w'
                           go_simp
                           with_reducible rfl
                          rotate_left
                          ·simp only [Act.put, List.setIfInBounds_toArray, List.set_cons_zero, List.set_cons_succ, i64_w, i32_w]
                           rfl
                          refine pure_ (i := 37) (N := some 216) (v := ?_) (a' := ?_) #[true, true, true, true, true, true, true, true, true, true, true, true, true, true, true, true, true, true, true, true, true, true, true, true, true, true, true, true, true, true, true, true, true, true, true, true, true, true, false, false, false, false, false, false, false, false, false, false] rfl rfl (any_of HT_.out (by kernel_rfl)) (fun _ _ _ h => h) (Or.inl ⟨by rfl, ?_⟩) ?_ ?_
                          rotate_left
                          ·intro w'
                           go_simp
                           with_reducible rfl
                          rotate_left
                          ·simp only [Act.put, List.setIfInBounds_toArray, List.set_cons_zero, List.set_cons_succ, i64_w, i32_w]
                           rfl
                          refine pure_ (i := 39) (N := some 218) (v := ?_) (a' := ?_) #[true, true, true, true, true, true, true, true, true, true, true, true, true, true, true, true, true, true, true, true, true, true, true, true, true, true, true, true, true, true, true, true, true, true, true, true, true, true, false, true, false, false, false, false, false, false, false, false] rfl rfl (any_of HT_.out (by kernel_rfl)) (fun _ _ _ h => h) (Or.inl ⟨by rfl, ?_⟩) ?_ ?_
                          rotate_left
                          ·intro w'
                           go_simp
                           with_reducible rfl
                          rotate_left
                          ·simp only [Act.put, List.setIfInBounds_toArray, List.set_cons_zero, List.set_cons_succ, i64_w, i32_w]
                           rfl
                          refine pure_ (i := 43) (N := some 222) (v := ?_) (a' := ?_) #[true, true, true, true, true, true, true, true, true, true, true, true, true, true, true, true, true, true, true, true, true, true, true, true, true, true, true, true, true, true, true, true, true, true, true, true, true, true, false, true, false, false, false, true, false, false, false, false] rfl rfl (any_of HT_.out (by kernel_rfl)) (fun _ _ _ h => h) (Or.inl ⟨by rfl, ?_⟩) ?_ ?_
                          rotate_left
                          ·intro w'
                           go_simp
                           with_reducible rfl
                          rotate_left
                          ·simp only [Act.put, List.setIfInBounds_toArray, List.set_cons_zero, List.set_cons_succ, i64_w, i32_w]
                           rfl
                          refine take_ (i := 38) (N := some 217) (v := ?_) (a' := ?_) #[true, true, true, true, true, true, true, true, true, true, true, true, true, true, true, true, true, true, true, true, true, true, true, true, true, true, true, true, true, true, true, true, true, true, true, true, true, true, true, true, false, false, false, true, false, false, false, false] rfl rfl (take_ofW HT_.out HW_.out (by kernel_rfl)) (fun _ _ _ h => h) (Or.inl ⟨by rfl, ?_⟩) hHeld ?_ ?_
                          rotate_left
                          ·rintro w' ⟨s0, s1, s2, s3, s4, s5, s6, s7, s8, s9, s10, s11, s12, s13⟩
                           go_simp
                           with_reducible rfl
                          rotate_left
                          ·simp only [Act.put, List.setIfInBounds_toArray, List.set_cons_zero, List.set_cons_succ, i64_w, i32_w]
                           rfl
                          refine pure_ (i := 40) (N := some 219) (v := ?_) (a' := ?_) #[true, true, true, true, true, true, true, true, true, true, true, true, true, true, true, true, true, true, true, true, true, true, true, true, true, true, true, true, true, true, true, true, true, true, true, true, true, true, true, true, true, false, false, true, false, false, false, false] rfl rfl (any_of HT_.out (by kernel_rfl)) (fun _ _ _ h => h) (Or.inl ⟨by rfl, ?_⟩) ?_ ?_
                          rotate_left
                          ·intro w'
                           go_simp
                           with_reducible rfl
                          rotate_left
                          ·simp only [Act.put, List.setIfInBounds_toArray, List.set_cons_zero, List.set_cons_succ, i64_w, i32_w]
                           rfl
                          refine pure_ (i := 41) (N := some 220) (v := ?_) (a' := ?_) #[true, true, true, true, true, true, true, true, true, true, true, true, true, true, true, true, true, true, true, true, true, true, true, true, true, true, true, true, true, true, true, true, true, true, true, true, true, true, true, true, true, true, false, true, false, false, false, false] rfl rfl (any_of HT_.out (by kernel_rfl)) (fun _ _ _ h => h) (Or.inl ⟨by rfl, ?_⟩) ?_ ?_
                          rotate_left
                          ·intro w'
                           go_simp
                           with_reducible rfl
                          rotate_left
                          ·simp only [Act.put, List.setIfInBounds_toArray, List.set_cons_zero, List.set_cons_succ, i64_w, i32_w]
                           rfl
                          refine take_ (i := 42) (N := some 221) (v := ?_) (a' := ?_) #[true, true, true, true, true, true, true, true, true, true, true, true, true, true, true, true, true, true, true, true, true, true, true, true, true, true, true, true, true, true, true, true, true, true, true, true, true, true, true, true, true, true, true, true, false, false, false, false] rfl rfl (take_ofW HT_.out HW_.out (by kernel_rfl)) (fun _ _ _ h => h) (Or.inl ⟨by rfl, ?_⟩) hHeld ?_ ?_
                          rotate_left
                          ·rintro w' ⟨s0, s1, s2, s3, s4, s5, s6, s7, s8, s9, s10, s11, s12, s13⟩
                           go_simp
                           with_reducible rfl
                          rotate_left
                          ·simp only [Act.put, List.setIfInBounds_toArray, List.set_cons_zero, List.set_cons_succ, i64_w, i32_w]
                           rfl
                          refine take_ (i := 44) (N := some 223) (v := ?_) (a' := ?_) #[true, true, true, true, true, true, true, true, true, true, true, true, true, true, true, true, true, true, true, true, true, true, true, true, true, true, true, true, true, true, true, true, true, true, true, true, true, true, true, true, true, true, true, true, true, false, false, false] rfl rfl (take_ofW HT_.out HW_.out (by kernel_rfl)) (fun _ _ _ h => h) (Or.inl ⟨by rfl, ?_⟩) hHeld ?_ ?_
                          rotate_left
                          ·rintro w' ⟨s0, s1, s2, s3, s4, s5, s6, s7, s8, s9, s10, s11, s12, s13⟩
                           go_simp
                           with_reducible rfl
                          rotate_left
                          ·simp only [Act.put, List.setIfInBounds_toArray, List.set_cons_zero, List.set_cons_succ, i64_w, i32_w]
                           rfl
                          refine one_ (i := 45) (N := some 224) #[true, true, true, true, true, true, true, true, true, true, true, true, true, true, true, true, true, true, true, true, true, true, true, true, true, true, true, true, true, true, true, true, true, true, true, true, true, true, true, true, true, true, true, true, true, true, false, false] rfl rfl (one_of HT_.out (by kernel_rfl)) (by decide) (fun K hK => ?_)
                          refine goes_ Tryd.func15 (by kernel_rfl) rfl #[.string (strOfNums x13_3), .string (⟨#[32]⟩ : ByteArray)] (by rfl) rfl rfl ml ?_
                          with_reducible refine (strings_Trim.calls (strOfNums x13_3) (⟨#[32]⟩ : ByteArray) t312 _ A130.out).mono ?_
                          rintro e w135 ⟨rfl, hb⟩
                          have HS6_ := (hb.cell (World.block_lt_of_cell? _ _ (hHeld.2.2.2.2.2.2.1))).trans (hHeld.2.2.2.2.2.2.1)
                          have HS7_ := (hb.cell (World.block_lt_of_cell? _ _ (hHeld.2.2.2.2.2.2.2.1))).trans (hHeld.2.2.2.2.2.2.2.1)
                          have HS8_ := (hb.cell (World.block_lt_of_cell? _ _ (hHeld.2.2.2.2.2.2.2.2.1))).trans (hHeld.2.2.2.2.2.2.2.2.1)
                          have HS9_ := (hb.cell (World.block_lt_of_cell? _ _ (hHeld.2.2.2.2.2.2.2.2.2.1))).trans (hHeld.2.2.2.2.2.2.2.2.2.1)
                          have HS10_ := (hb.cell (World.block_lt_of_cell? _ _ (hHeld.2.2.2.2.2.2.2.2.2.2.1))).trans (hHeld.2.2.2.2.2.2.2.2.2.2.1)
                          have HS11_ := (hb.cell (World.block_lt_of_cell? _ _ (hHeld.2.2.2.2.2.2.2.2.2.2.2.1))).trans (hHeld.2.2.2.2.2.2.2.2.2.2.2.1)
                          have HS12_ := (hb.cell (World.block_lt_of_cell? _ _ (hHeld.2.2.2.2.2.2.2.2.2.2.2.2.1))).trans (hHeld.2.2.2.2.2.2.2.2.2.2.2.2.1)
                          refine ⟨_, rfl, ?_⟩
                          have n0_ := Aside0.mk (Kd.R_below (kr HO_8.out) hb)
                          have n1_ := Aside0.mk (Kd.B_below (by (with_reducible repeat (first | apply Kd.B_alloc | apply Kd.B_drewN | apply Kd.B_drew)); exact HO_13.out) hb)
                          have n2_ := Aside0.mk (Kd.R_below (kr HO_269000.out) hb)
                          have n3_ := Aside0.mk (Kd.R_below (kr HO_288000.out) hb)
                          have n4_ := Aside0.mk (Kd.R_below (kr HO303.out) hb)
                          have n5_ := Aside0.mk (kb BK257.out hb)
                          have n6_ := Aside0.mk (kb BK268.out hb)
                          have n7_ := Aside0.mk (kb BK287.out hb)
                          have n8_ := Aside0.mk (kb BK307.out hb)
                          have n9_ := Aside0.mk (below_step bl hb)
                          clear HO_8
                          clear HO_13
                          clear HO_269000
                          clear HO_288000
                          clear HO303
                          clear BK257
                          clear BK268
                          clear BK287
                          clear BK307
                          clear HB
                          have HO_8 := n0_
                          have HO_13 := n1_
                          have HO_269000 := n2_
                          have HO_288000 := n3_
                          have HO303 := n4_
                          have BK257 := n5_
                          have BK268 := n6_
                          have BK287 := n7_
                          have BK307 := n8_
                          have HB := n9_
                          clear n0_ n1_ n2_ n3_ n4_ n5_ n6_ n7_ n8_ n9_
                          (try clear hb)
                          (try clear hb2)
                          (try clear hk)
                          (try clear hi)
                          refine hK.out _ _ ⟨(blk_cell BK307.out 0).trans rfl, (blk_cell BK307.out 1).trans rfl, (blk_cell BK307.out 2).trans rfl, (blk_cell BK268.out 0).trans rfl, (blk_cell BK268.out 1).trans rfl, (blk_cell BK268.out 2).trans rfl, HS6_, HS7_, HS8_, HS9_, HS10_, HS11_, HS12_, Kd.B_string (P := Tryd.prog) Tryd.underlying39 Tryd.underlying5 Tryd.underlying9 HO_13.out⟩ (fun hHeld => ?_)
                          clear hK K
                          refine norm_ (a' := ?_) ?_ ?_
                          rotate_left
                          ·show Act.put _ (some 224) _ = _
                           simp only [Act.put, List.setIfInBounds_toArray, List.set_cons_zero, List.set_cons_succ, i64_w, i32_w]
                           rfl
                          refine pure_ (i := 46) (N := some 225) (v := ?_) (a' := ?_) #[true, true, true, true, true, true, true, true, true, true, true, true, true, true, true, true, true, true, true, true, true, true, true, true, true, true, true, true, true, true, true, true, true, true, true, true, true, true, true, true, true, true, true, true, true, true, true, false] rfl rfl (any_of HT_.out (by kernel_rfl)) (fun _ _ _ h => h) (Or.inl ⟨by rfl, ?_⟩) ?_ ?_
                          rotate_left
                          ·intro w'
                           go_simp
                           with_reducible rfl
                          rotate_left
                          ·simp only [Act.put, List.setIfInBounds_toArray, List.set_cons_zero, List.set_cons_succ, i64_w, i32_w]
                           rfl
                          refine pure_ (i := 47) (N := some 226) (v := ?_) (a' := ?_) #[true, true, true, true, true, true, true, true, true, true, true, true, true, true, true, true, true, true, true, true, true, true, true, true, true, true, true, true, true, true, true, true, true, true, true, true, true, true, true, true, true, true, true, true, true, true, true, true] rfl rfl (any_of HT_.out (by kernel_rfl)) (fun _ _ _ h => h) (Or.inl ⟨by rfl, ?_⟩) ?_ ?_
                          rotate_left
                          ·intro w'
                           go_simp
                           with_reducible rfl
                          rotate_left
                          ·simp only [Act.put, List.setIfInBounds_toArray, List.set_cons_zero, List.set_cons_succ, i64_w, i32_w]
                           rfl
                          refine done_ (done_of HT_.out (by kernel_rfl)) ?_
                          try go_wp2
                          subst hji125
                          go_meet
                          case rel => exact ⟨_, ((((rd_T41 t301 (Int.tmod (wrap64 (a2_1)) (t262.length : Int))).f1).toList != t312.toList)), (by first | rfl | (simp; done) | (simp only [← hji125] <;> (first | rfl | simp)) | (simp [*]; done)), H', ⟨by have := HJ5.out; have := HK2.out; have := HK3.out; have := HJ64.out; first | omega | exact Nat.le_refl _⟩, ⟨by (try simp only [hl13_3]); (with_reducible repeat (first | apply Kd.R_alloc | apply Kd.R_drewN | apply Kd.R_drew)); exact HO_269000.out⟩, ⟨by (try simp only [hl13_3]); (with_reducible repeat (first | apply Kd.R_alloc | apply Kd.R_drewN | apply Kd.R_drew)); exact HO_288000.out⟩, ⟨by (try simp only [hl13_3]); (with_reducible repeat (first | apply Kd.R_alloc | apply Kd.R_drewN | apply Kd.R_drew)); exact HO303.out⟩, ⟨by (try simp only [hl13_3]); (with_reducible repeat (first | refine blk_drewN ?_ _ | refine blk_drew ?_ | refine blk_alloc ?_ _)); exact BK257.out⟩, ⟨by (try simp only [hl13_3]); (with_reducible repeat (first | refine blk_drewN ?_ _ | refine blk_drew ?_ | refine blk_alloc ?_ _)); exact BK268.out⟩, ⟨by (try simp only [hl13_3]); (with_reducible repeat (first | refine blk_drewN ?_ _ | refine blk_drew ?_ | refine blk_alloc ?_ _)); exact BK287.out⟩, ⟨by (try simp only [hl13_3]); (with_reducible repeat (first | refine blk_drewN ?_ _ | refine blk_drew ?_ | refine blk_alloc ?_ _)); exact BK307.out⟩, ⟨by repeat (first | (with_reducible first | exact HB.out | apply below_alloc | apply pw_below_drewN | apply below_drew1 | refine below_set ?_ GE257.out | refine below_set ?_ GE268.out | refine below_set ?_ GE287.out | refine below_set ?_ GE307.out) | exact HB.out)⟩⟩
                         ·rw [if_neg c129] at H
                          have c129b0 : (((rd_T41 t301 (ji125)).f0).toList == (rdOf ByteArray.empty t259 (ji125)).toList) = false := beq_eq_false_iff_ne.mpr c129
                          have c129b1 : (((rd_T41 t301 (ji125)).f0).toList != (rdOf ByteArray.empty t259 (ji125)).toList) = true := bne_iff_ne.mpr c129
                          exact absurd (H.trans (congrArg some HT_r.out)) (by cases kj64 <;> simp [postriderlaw07_HeadBytes.j4])
                        ·rw [if_neg c128] at H
                         exact absurd H (by simp)
                       ·rw [if_neg c127] at H
                        exact absurd H (by simp)
                      ·rw [if_neg c126] at H
                       exact absurd H (by simp)
                     ·rw [if_neg c124] at H
                      have c124b0 : ((t301.length : Int) == (t262.length : Int)) = false := beq_eq_false_iff_ne.mpr c124
                      have c124b1 : ((t301.length : Int) != (t262.length : Int)) = true := bne_iff_ne.mpr c124
                      have c124b2 : (t301.length == t262.length) = false := by first | simpa using c124 | (simp at c124 ⊢; omega)
                      exact absurd (H.trans (congrArg some HT_r.out)) (by cases kj64 <;> simp [postriderlaw07_HeadBytes.j4])
                    ·rw [if_neg c123] at H
                     have c123b0 : (t304.toList == t265.toList) = false := beq_eq_false_iff_ne.mpr c123
                     have c123b1 : (t304.toList != t265.toList) = true := bne_iff_ne.mpr c123
                     exact absurd (H.trans (congrArg some HT_r.out)) (by cases kj64 <;> simp [postriderlaw07_HeadBytes.j4])
                   ·replace c122 := Bool.eq_false_iff.mpr c122
                    subst c122
                    have H1 : (postriderlaw07_HeadBytes.j4 kj64 t258 (Int.tmod (wrap64 (a2_1)) (t262.length : Int)) true t262 t265 t266 t301 t304 t305) = some r := by rw [if_neg (show ¬ (false = true) by decide)] at H; exact H
                    clear H
                    have H := H1
                    clear H1
                    exact absurd (H.trans (congrArg some HT_r.out)) (by cases kj64 <;> simp [postriderlaw07_HeadBytes.j4])
                  ·rw [if_neg c120] at H
                   have c120b0 : (t306 == 0) = false := beq_eq_false_iff_ne.mpr c120
                   have c120b1 : (t306 != 0) = true := bne_iff_ne.mpr c120
                   (first | rw [c120b0] | (simp only [i64_w, i32_w]; rw [c120b0]) | skip)
                   exact absurd (H.trans (congrArg some HT_r.out)) (by cases kj64 <;> simp [postriderlaw07_HeadBytes.j4])
                 case rest => as_aux_lemma =>
                  clear HC106
                  try clear c1
                  try clear c2
                  try clear p2
                  try clear p3
                  try clear q3
                  try clear hx3
                  try clear p6
                  try clear c12
                  try clear c15
                  try clear c23
                  try clear p30
                  try clear q30
                  try clear hx30
                  try clear p31
                  try clear q31
                  try clear hx31
                  try clear p64
                  try clear c120
                  try clear c120b0
                  try clear c120b1
                  try clear c122
                  try clear c123
                  try clear c123b0
                  try clear c123b1
                  try clear c124
                  try clear c124b0
                  try clear c124b1
                  try clear c124b2
                  try clear c126
                  try clear c127
                  try clear c128
                  try clear c129
                  try clear c129b0
                  try clear c129b1
                  try clear hx309_0
                  try clear hx309_1
                  try clear hx309_2
                  try clear hx310_0
                  try clear hx311_0
                  try clear hx311_1
                  try clear hx311_2
                  try clear p309
                  try clear p310
                  try clear p311
                  try clear q309
                  try clear q310
                  try clear q311
                  obtain ⟨kq, x226_105, rfl, HA, HJ105, HO_269000, HO_288000, HO_308000, BK257, BK268, BK287, BK307, HB⟩ := hcut
                  cases kq with
                  | zero => exact absurd HA.out (by simp [postriderlaw07_HeadBytes.j4])
                  | succ kj105 =>
                   have H := HA.out
                   clear HA
                   simp only [postriderlaw07_HeadBytes.j4] at H
                   by_cases c136 : x226_105 = true
                   ·subst c136
                    have H1 : (some false) = some r := by rw [if_pos rfl] at H; exact H
                    clear H
                    have H := H1
                    clear H1
                    exact absurd ((Option.some.inj H).trans HT_r.out) (by decide)
                   ·replace c136 := Bool.eq_false_iff.mpr c136
                    subst c136
                    have H1 : (if 0 ≤ (Int.tmod (wrap64 (a2_1)) (t262.length : Int)) then (if (Int.tmod (wrap64 (a2_1)) (t262.length : Int)) ≤ (t301.length : Int) then (if (Int.tmod (wrap64 (a2_1)) (t262.length : Int)) ≤ (t262.length : Int) then ((slices_Equal_head_Field_head_Field.f kj105 (t301.take ((Int.tmod (wrap64 (a2_1)) (t262.length : Int)) : Int).toNat) (t262.take ((Int.tmod (wrap64 (a2_1)) (t262.length : Int)) : Int).toNat)).bind fun t321 => (if t321 = true then (if 0 ≤ (wrap64 ((Int.tmod (wrap64 (a2_1)) (t262.length : Int)) + 1)) then (if (wrap64 ((Int.tmod (wrap64 (a2_1)) (t262.length : Int)) + 1)) ≤ (t301.length : Int) then (if (wrap64 ((Int.tmod (wrap64 (a2_1)) (t262.length : Int)) + 1)) ≤ (t262.length : Int) then ((slices_Equal_head_Field_head_Field.f kj105 (t301.drop ((wrap64 ((Int.tmod (wrap64 (a2_1)) (t262.length : Int)) + 1)) : Int).toNat) (t262.drop ((wrap64 ((Int.tmod (wrap64 (a2_1)) (t262.length : Int)) + 1)) : Int).toNat)).bind fun t330 => (if t330 = true then ((head_Message_Text.f t262 t265 t266).bind fun t331 => (if t331.toList = t258.toList then ((postriderlaw07_wakes.f kj105).bind fun t332 => (some t332)) else (some false))) else (some false))) else (none)) else (none)) else (none)) else (some false))) else (none)) else (none)) else (none)) = some r := by rw [if_neg (show ¬ (false = true) by decide)] at H; exact H
                    clear H
                    have H := H1
                    clear H1
                    obtain ⟨ji137, hji137⟩ : ∃ j_ : Int, (Int.tmod (wrap64 (a2_1)) (t262.length : Int)) = j_ := ⟨_, rfl⟩
                    replace H : (if 0 ≤ (ji137) then (if (ji137) ≤ (t301.length : Int) then (if (ji137) ≤ (t262.length : Int) then ((slices_Equal_head_Field_head_Field.f kj105 (t301.take ((ji137) : Int).toNat) (t262.take ((ji137) : Int).toNat)).bind fun t321 => (if t321 = true then (if 0 ≤ (wrap64 ((ji137) + 1)) then (if (wrap64 ((ji137) + 1)) ≤ (t301.length : Int) then (if (wrap64 ((ji137) + 1)) ≤ (t262.length : Int) then ((slices_Equal_head_Field_head_Field.f kj105 (t301.drop ((wrap64 ((ji137) + 1)) : Int).toNat) (t262.drop ((wrap64 ((ji137) + 1)) : Int).toNat)).bind fun t330 => (if t330 = true then ((head_Message_Text.f t262 t265 t266).bind fun t331 => (if t331.toList = t258.toList then ((postriderlaw07_wakes.f kj105).bind fun t332 => (some t332)) else (some false))) else (some false))) else (none)) else (none)) else (none)) else (some false))) else (none)) else (none)) else (none)) = some r := by first | (rw [hji137] at H; exact H) | (simp only [hji137] at H ⊢; exact H)
                    by_cases c138 : 0 ≤ (ji137)
                    ·rw [if_pos c138] at H
                     have c138b0 := eq_true c138
                     have c138b1 : decide (0 ≤ (ji137)) = true := decide_eq_true c138
                     clear c138
                     by_cases c139 : (ji137) ≤ (t301.length : Int)
                     ·rw [if_pos c139] at H
                      have c139b0 := eq_true c139
                      have c139b1 : decide ((ji137) ≤ (t301.length : Int)) = true := decide_eq_true c139
                      clear c139
                      obtain ⟨y313, hy313⟩ : ∃ y_ : List (S41), y_ = (t301.take ((ji137) : Int).toNat) := ⟨_, rfl⟩
                      replace H : (if (ji137) ≤ (t262.length : Int) then ((slices_Equal_head_Field_head_Field.f kj105 y313 (t262.take ((ji137) : Int).toNat)).bind fun t321 => (if t321 = true then (if 0 ≤ (wrap64 ((ji137) + 1)) then (if (wrap64 ((ji137) + 1)) ≤ (t301.length : Int) then (if (wrap64 ((ji137) + 1)) ≤ (t262.length : Int) then ((slices_Equal_head_Field_head_Field.f kj105 (t301.drop ((wrap64 ((ji137) + 1)) : Int).toNat) (t262.drop ((wrap64 ((ji137) + 1)) : Int).toNat)).bind fun t330 => (if t330 = true then ((head_Message_Text.f t262 t265 t266).bind fun t331 => (if t331.toList = t258.toList then ((postriderlaw07_wakes.f kj105).bind fun t332 => (some t332)) else (some false))) else (some false))) else (none)) else (none)) else (none)) else (some false))) else (none)) = some r := by first | (rw [hy313]; with_reducible exact H) | (have H2_ := (Option.bind_some _ _).symm.trans H; rw [hy313]; with_reducible exact H2_) | (have H2_ := (Option.bind_some _ _).symm.trans H; with_reducible exact H2_) | with_reducible exact H | (rw [hy313]; exact H) | exact H
                      have Ny313 := Aside0.mk hy313
                      clear hy313
                      have c140b0 := eq_true (od : 0 ≤ (ji137))
                      by_cases c141 : (ji137) ≤ (t262.length : Int)
                      ·rw [if_pos c141] at H
                       have c141b0 := eq_true c141
                       have c141b1 : decide ((ji137) ≤ (t262.length : Int)) = true := decide_eq_true c141
                       clear c141
                       obtain ⟨y317, hy317⟩ : ∃ y_ : List (S41), y_ = (t262.take ((ji137) : Int).toNat) := ⟨_, rfl⟩
                       replace H : ((slices_Equal_head_Field_head_Field.f kj105 y313 y317).bind fun t321 => (if t321 = true then (if 0 ≤ (wrap64 ((ji137) + 1)) then (if (wrap64 ((ji137) + 1)) ≤ (t301.length : Int) then (if (wrap64 ((ji137) + 1)) ≤ (t262.length : Int) then ((slices_Equal_head_Field_head_Field.f kj105 (t301.drop ((wrap64 ((ji137) + 1)) : Int).toNat) (t262.drop ((wrap64 ((ji137) + 1)) : Int).toNat)).bind fun t330 => (if t330 = true then ((head_Message_Text.f t262 t265 t266).bind fun t331 => (if t331.toList = t258.toList then ((postriderlaw07_wakes.f kj105).bind fun t332 => (some t332)) else (some false))) else (some false))) else (none)) else (none)) else (none)) else (some false))) = some r := by first | (rw [hy317]; with_reducible exact H) | (have H2_ := (Option.bind_some _ _).symm.trans H; rw [hy317]; with_reducible exact H2_) | (have H2_ := (Option.bind_some _ _).symm.trans H; with_reducible exact H2_) | with_reducible exact H | (rw [hy317]; exact H) | exact H
                       have Ny317 := Aside0.mk hy317
                       clear hy317
                       replace H := Option.bind_eq_some_iff.mp H
                       obtain ⟨t321, A1420, H⟩ := H
                       replace H : (if t321 = true then (if 0 ≤ (wrap64 ((ji137) + 1)) then (if (wrap64 ((ji137) + 1)) ≤ (t301.length : Int) then (if (wrap64 ((ji137) + 1)) ≤ (t262.length : Int) then ((slices_Equal_head_Field_head_Field.f kj105 (t301.drop ((wrap64 ((ji137) + 1)) : Int).toNat) (t262.drop ((wrap64 ((ji137) + 1)) : Int).toNat)).bind fun t330 => (if t330 = true then ((head_Message_Text.f t262 t265 t266).bind fun t331 => (if t331.toList = t258.toList then ((postriderlaw07_wakes.f kj105).bind fun t332 => (some t332)) else (some false))) else (some false))) else (none)) else (none)) else (none)) else (some false)) = some r := H
                       have A142 := Aside0.mk A1420
                       clear A1420
                       by_cases c143 : t321 = true
                       ·subst c143
                        have H1 : (if 0 ≤ (wrap64 ((ji137) + 1)) then (if (wrap64 ((ji137) + 1)) ≤ (t301.length : Int) then (if (wrap64 ((ji137) + 1)) ≤ (t262.length : Int) then ((slices_Equal_head_Field_head_Field.f kj105 (t301.drop ((wrap64 ((ji137) + 1)) : Int).toNat) (t262.drop ((wrap64 ((ji137) + 1)) : Int).toNat)).bind fun t330 => (if t330 = true then ((head_Message_Text.f t262 t265 t266).bind fun t331 => (if t331.toList = t258.toList then ((postriderlaw07_wakes.f kj105).bind fun t332 => (some t332)) else (some false))) else (some false))) else (none)) else (none)) else (none)) = some r := by rw [if_pos rfl] at H; exact H
                        clear H
                        have H := H1
                        clear H1
                        obtain ⟨ji144, hji144⟩ : ∃ j_ : Int, (wrap64 ((ji137) + 1)) = j_ := ⟨_, rfl⟩
                        replace H : (if 0 ≤ (ji144) then (if (ji144) ≤ (t301.length : Int) then (if (ji144) ≤ (t262.length : Int) then ((slices_Equal_head_Field_head_Field.f kj105 (t301.drop ((ji144) : Int).toNat) (t262.drop ((ji144) : Int).toNat)).bind fun t330 => (if t330 = true then ((head_Message_Text.f t262 t265 t266).bind fun t331 => (if t331.toList = t258.toList then ((postriderlaw07_wakes.f kj105).bind fun t332 => (some t332)) else (some false))) else (some false))) else (none)) else (none)) else (none)) = some r := by first | (rw [hji144] at H; exact H) | (simp only [hji144] at H ⊢; exact H)
                        (try rw [hji144] at A142)
                        have hji144w : (IntKind.i64.wrap ((ji137) + 1)) = ji144 := (i64_w _).trans hji144
                        by_cases c145 : 0 ≤ (ji144)
                        ·rw [if_pos c145] at H
                         have c145b0 := eq_true c145
                         have c145b1 : decide (0 ≤ (ji144)) = true := decide_eq_true c145
                         clear c145
                         by_cases c146 : (ji144) ≤ (t301.length : Int)
                         ·rw [if_pos c146] at H
                          have c146b0 := eq_true c146
                          have c146b1 : decide ((ji144) ≤ (t301.length : Int)) = true := decide_eq_true c146
                          clear c146
                          obtain ⟨y322, hy322⟩ : ∃ y_ : List (S41), y_ = (t301.drop ((ji144) : Int).toNat) := ⟨_, rfl⟩
                          replace H : (if (ji144) ≤ (t262.length : Int) then ((slices_Equal_head_Field_head_Field.f kj105 y322 (t262.drop ((ji144) : Int).toNat)).bind fun t330 => (if t330 = true then ((head_Message_Text.f t262 t265 t266).bind fun t331 => (if t331.toList = t258.toList then ((postriderlaw07_wakes.f kj105).bind fun t332 => (some t332)) else (some false))) else (some false))) else (none)) = some r := by first | (rw [hy322]; with_reducible exact H) | (have H2_ := (Option.bind_some _ _).symm.trans H; rw [hy322]; with_reducible exact H2_) | (have H2_ := (Option.bind_some _ _).symm.trans H; with_reducible exact H2_) | with_reducible exact H | (rw [hy322]; exact H) | exact H
                          have Ny322 := Aside0.mk hy322
                          clear hy322
                          have c147b0 := eq_true (od : 0 ≤ (ji144))
                          by_cases c148 : (ji144) ≤ (t262.length : Int)
                          ·rw [if_pos c148] at H
                           have c148b0 := eq_true c148
                           have c148b1 : decide ((ji144) ≤ (t262.length : Int)) = true := decide_eq_true c148
                           clear c148
                           obtain ⟨y326, hy326⟩ : ∃ y_ : List (S41), y_ = (t262.drop ((ji144) : Int).toNat) := ⟨_, rfl⟩
                           replace H : ((slices_Equal_head_Field_head_Field.f kj105 y322 y326).bind fun t330 => (if t330 = true then ((head_Message_Text.f t262 t265 t266).bind fun t331 => (if t331.toList = t258.toList then ((postriderlaw07_wakes.f kj105).bind fun t332 => (some t332)) else (some false))) else (some false))) = some r := by first | (rw [hy326]; with_reducible exact H) | (have H2_ := (Option.bind_some _ _).symm.trans H; rw [hy326]; with_reducible exact H2_) | (have H2_ := (Option.bind_some _ _).symm.trans H; with_reducible exact H2_) | with_reducible exact H | (rw [hy326]; exact H) | exact H
                           have Ny326 := Aside0.mk hy326
                           clear hy326
                           replace H := Option.bind_eq_some_iff.mp H
                           obtain ⟨t330, A1490, H⟩ := H
                           replace H : (if t330 = true then ((head_Message_Text.f t262 t265 t266).bind fun t331 => (if t331.toList = t258.toList then ((postriderlaw07_wakes.f kj105).bind fun t332 => (some t332)) else (some false))) else (some false)) = some r := H
                           have A149 := Aside0.mk A1490
                           clear A1490
                           by_cases c150 : t330 = true
                           ·subst c150
                            have H1 : ((head_Message_Text.f t262 t265 t266).bind fun t331 => (if t331.toList = t258.toList then ((postriderlaw07_wakes.f kj105).bind fun t332 => (some t332)) else (some false))) = some r := by rw [if_pos rfl] at H; exact H
                            clear H
                            have H := H1
                            clear H1
                            replace H := Option.bind_eq_some_iff.mp H
                            obtain ⟨t331, A1510, H⟩ := H
                            replace H : (if t331.toList = t258.toList then ((postriderlaw07_wakes.f kj105).bind fun t332 => (some t332)) else (some false)) = some r := H
                            have A151 := Aside0.mk A1510
                            clear A1510
                            by_cases c152 : t331.toList = t258.toList
                            ·rw [if_pos c152] at H
                             have c152b0 : (t331.toList == t258.toList) = true := beq_iff_eq.mpr c152
                             have c152b1 : (t331.toList != t258.toList) = false := bne_eq_false_iff_eq.mpr c152
                             clear c152
                             replace H := Option.bind_eq_some_iff.mp H
                             obtain ⟨t332, A1530, H⟩ := H
                             replace H : (some t332) = some r := H
                             have A153 := Aside0.mk A1530
                             clear A1530
                             obtain rfl := Option.some.inj H
                             try go_wp2
                             have n0_ := Aside0.mk (Kd.R_drew HO_269000.out)
                             have n1_ := Aside0.mk (Kd.R_drew HO_288000.out)
                             have n2_ := Aside0.mk (Kd.R_drew HO_308000.out)
                             have n3_ := Aside0.mk (blk_drew BK257.out)
                             have n4_ := Aside0.mk (blk_drew BK268.out)
                             have n5_ := Aside0.mk (blk_drew BK287.out)
                             have n6_ := Aside0.mk (blk_drew BK307.out)
                             have n7_ := Aside0.mk (below_drew1 HB.out)
                             clear HO_269000
                             clear HO_288000
                             clear HO_308000
                             clear BK257
                             clear BK268
                             clear BK287
                             clear BK307
                             clear HB
                             have HO_269000 := n0_
                             have HO_288000 := n1_
                             have HO_308000 := n2_
                             have BK257 := n3_
                             have BK268 := n4_
                             have BK287 := n5_
                             have BK307 := n6_
                             have HB := n7_
                             clear n0_ n1_ n2_ n3_ n4_ n5_ n6_ n7_
                             have q155 : ((ji137) : Int) ≤ ((t301.length : Int) : Int) := od
                             obtain ⟨i0155, hi0155, _, hsz155, _⟩ := info_parts info41
                             have hroom155 : t301.length ≤ co115 := (Kd.R_reads' HO_308000.out).2.1
                             have hC155 : Kd.C k41 _ Ao115 t301.length t301 := (Kd.R_reads' HO_308000.out).2.2
                             have hcut155 := cut_to (P := Tryd.prog) 22 41 .i64 Tryd.underlying22 hi0155 Ao115 t301.length co115 (ji137) (od) q155 hroom155
                             have hr155 := Kd.C_take (m := ((ji137) : Int).toNat) hC155 (by omega)
                             have hy155 : y313.length = ((ji137) : Int).toNat := (by rw [Ny313.out, List.length_take]; omega)
                             rw [← Ny313.out] at hr155
                             rw [← hy155] at hcut155
                             have HR316 := Aside0.mk hr155
                             have HC316 := Aside0.mk (show y313.length ≤ co115 from by omega)
                             clear hr155 hC155 hroom155 hi0155 hsz155
                             have KY155 := Aside0.mk hy155
                             clear hy155
                             have KL155 := Aside0.mk (show ((ji137) : Int).toNat ≤ t301.length from by omega)
                             replace q155 := eq_true q155
                             have q156 : ((ji137) : Int) ≤ ((t262.length : Int) : Int) := od
                             obtain ⟨i0156, hi0156, _, hsz156, _⟩ := info_parts info41
                             have hroom156 : t262.length ≤ co12 := (Kd.R_reads' HO_269000.out).2.1
                             have hC156 : Kd.C k41 _ Ao12 t262.length t262 := (Kd.R_reads' HO_269000.out).2.2
                             have hcut156 := cut_to (P := Tryd.prog) 22 41 .i64 Tryd.underlying22 hi0156 Ao12 t262.length co12 (ji137) (od) q156 hroom156
                             have hr156 := Kd.C_take (m := ((ji137) : Int).toNat) hC156 (by omega)
                             have hy156 : y317.length = ((ji137) : Int).toNat := (by rw [Ny317.out, List.length_take]; omega)
                             rw [← Ny317.out] at hr156
                             rw [← hy156] at hcut156
                             have HR320 := Aside0.mk hr156
                             have HC320 := Aside0.mk (show y317.length ≤ co12 from by omega)
                             clear hr156 hC156 hroom156 hi0156 hsz156
                             have KY156 := Aside0.mk hy156
                             clear hy156
                             have KL156 := Aside0.mk (show ((ji137) : Int).toNat ≤ t262.length from by omega)
                             replace q156 := eq_true q156
                             refine start_ (n := 32) (S := fun w' => w'.cell? ⟨gb307, 0, none⟩ = some (.slice Ao115 t301.length co115) ∧ w'.cell? ⟨gb307, 1, none⟩ = some (.string t304) ∧ w'.cell? ⟨gb307, 2, none⟩ = some (.bool t305) ∧ w'.cell? ⟨gb268, 0, none⟩ = some (.slice Ao12 t262.length co12) ∧ w'.cell? ⟨gb268, 1, none⟩ = some (.string t265) ∧ w'.cell? ⟨gb268, 2, none⟩ = some (.bool t266)) (ds := []) #[false, false, false, false, false, false, false, false, false, false, false, false, false, false, false, false, false, false, false, false, false, false, false, false, false, false, false, false, false, false, false, false] (by kernel_rfl) rfl rfl ⟨(blk_cell BK307.out 0).trans rfl, (blk_cell BK307.out 1).trans rfl, (blk_cell BK307.out 2).trans rfl, (blk_cell BK268.out 0).trans rfl, (blk_cell BK268.out 1).trans rfl, (blk_cell BK268.out 2).trans rfl⟩ (fun hHeld => ?_); refine with_tabW postriderlaw07_HeadBytes.tab27 postriderlaw07_HeadBytes.bits27 (fun HT_ HW_ => ?_)
                             generalize wc.drew = w154 at HO_269000 HO_288000 HO_308000 BK257 BK268 BK287 BK307 HB HR316 HR320 hHeld ⊢
                             refine pure_ (i := 0) (N := some 227) (v := ?_) (a' := ?_) #[true, false, false, false, false, false, false, false, false, false, false, false, false, false, false, false, false, false, false, false, false, false, false, false, false, false, false, false, false, false, false, false] rfl rfl (any_of HT_.out (by kernel_rfl)) (fun _ _ _ h => h) (Or.inl ⟨by rfl, ?_⟩) ?_ ?_
                             rotate_left
                             ·intro w'
                              go_simp
                              with_reducible rfl
                             rotate_left
                             ·simp only [Act.put, List.setIfInBounds_toArray, List.set_cons_zero, List.set_cons_succ, i64_w, i32_w]
                              rfl
                             refine pure_ (i := 2) (N := some 229) (v := ?_) (a' := ?_) #[true, false, true, false, false, false, false, false, false, false, false, false, false, false, false, false, false, false, false, false, false, false, false, false, false, false, false, false, false, false, false, false] rfl rfl (any_of HT_.out (by kernel_rfl)) (fun _ _ _ h => h) (Or.inl ⟨by rfl, ?_⟩) ?_ ?_
                             rotate_left
                             ·intro w'
                              go_simp
                              with_reducible rfl
                             rotate_left
                             ·simp only [Act.put, List.setIfInBounds_toArray, List.set_cons_zero, List.set_cons_succ, i64_w, i32_w]
                              rfl
                             refine pure_ (i := 4) (N := some 231) (v := ?_) (a' := ?_) #[true, false, true, false, true, false, false, false, false, false, false, false, false, false, false, false, false, false, false, false, false, false, false, false, false, false, false, false, false, false, false, false] rfl rfl (any_of HT_.out (by kernel_rfl)) (fun _ _ _ h => h) (Or.inl ⟨by rfl, ?_⟩) ?_ ?_
                             rotate_left
                             ·intro w'
                              go_simp
                              with_reducible rfl
                             rotate_left
                             ·simp only [Act.put, List.setIfInBounds_toArray, List.set_cons_zero, List.set_cons_succ, i64_w, i32_w]
                              rfl
                             refine pure_ (i := 6) (N := some 233) (v := ?_) (a' := ?_) #[true, false, true, false, true, false, true, false, false, false, false, false, false, false, false, false, false, false, false, false, false, false, false, false, false, false, false, false, false, false, false, false] rfl rfl (any_of HT_.out (by kernel_rfl)) (fun _ _ _ h => h) (Or.inl ⟨by rfl, ?_⟩) ?_ ?_
                             rotate_left
                             ·intro w'
                              go_simp
                              with_reducible rfl
                             rotate_left
                             ·simp only [Act.put, List.setIfInBounds_toArray, List.set_cons_zero, List.set_cons_succ, i64_w, i32_w]
                              rfl
                             refine take_ (i := 1) (N := some 228) (v := ?_) (a' := ?_) #[true, true, true, false, true, false, true, false, false, false, false, false, false, false, false, false, false, false, false, false, false, false, false, false, false, false, false, false, false, false, false, false] rfl rfl (take_ofW HT_.out HW_.out (by kernel_rfl)) (fun _ _ _ h => h) (Or.inl ⟨by rfl, ?_⟩) hHeld ?_ ?_
                             rotate_left
                             ·rintro w' ⟨s0, s1, s2, s3, s4, s5⟩
                              go_simp
                              with_reducible rfl
                             rotate_left
                             ·simp only [Act.put, List.setIfInBounds_toArray, List.set_cons_zero, List.set_cons_succ, i64_w, i32_w]
                              rfl
                             refine pure_ (i := 3) (N := some 230) (v := ?_) (a' := ?_) #[true, true, true, true, true, false, true, false, false, false, false, false, false, false, false, false, false, false, false, false, false, false, false, false, false, false, false, false, false, false, false, false] rfl rfl (any_of HT_.out (by kernel_rfl)) (fun _ _ _ h => h) (Or.inl ⟨by rfl, ?_⟩) ?_ ?_
                             rotate_left
                             ·intro w'
                              go_simp
                              with_reducible rfl
                             rotate_left
                             ·simp only [Act.put, List.setIfInBounds_toArray, List.set_cons_zero, List.set_cons_succ, i64_w, i32_w]
                              rfl
                             refine take_ (i := 5) (N := some 232) (v := ?_) (a' := ?_) #[true, true, true, true, true, true, true, false, false, false, false, false, false, false, false, false, false, false, false, false, false, false, false, false, false, false, false, false, false, false, false, false] rfl rfl (take_ofW HT_.out HW_.out (by kernel_rfl)) (fun _ _ _ h => h) (Or.inl ⟨by rfl, ?_⟩) hHeld ?_ ?_
                             rotate_left
                             ·rintro w' ⟨s0, s1, s2, s3, s4, s5⟩
                              go_simp
                              with_reducible rfl
                             rotate_left
                             ·simp only [Act.put, List.setIfInBounds_toArray, List.set_cons_zero, List.set_cons_succ, i64_w, i32_w]
                              rfl
                             refine pure_ (i := 7) (N := some 234) (v := ?_) (a' := ?_) #[true, true, true, true, true, true, true, true, false, false, false, false, false, false, false, false, false, false, false, false, false, false, false, false, false, false, false, false, false, false, false, false] rfl rfl (any_of HT_.out (by kernel_rfl)) (fun _ _ _ h => h) (Or.inl ⟨by rfl, ?_⟩) ?_ ?_
                             rotate_left
                             ·intro w'
                              go_simp
                              with_reducible rfl
                             rotate_left
                             ·simp only [Act.put, List.setIfInBounds_toArray, List.set_cons_zero, List.set_cons_succ, i64_w, i32_w]
                              rfl
                             refine one_ (i := 8) (N := some 235) #[true, true, true, true, true, true, true, true, true, false, false, false, false, false, false, false, false, false, false, false, false, false, false, false, false, false, false, false, false, false, false, false] rfl rfl (one_of HT_.out (by kernel_rfl)) (by decide) (fun K hK => ?_)
                             refine goes_ Tryd.func37 (by kernel_rfl) rfl #[.slice Ao115 y313.length co115, .slice Ao12 y317.length co12] (by rfl) rfl rfl ml ?_
                             with_reducible refine (slices_Equal_head_Field_head_Field.calls kj105 _ _ y313 _ _ y317 true _ ?side1 ?side2 ?side3 ?side4 A142.out).mono ?_
                             (case side1 => repeat (first | exact (by repeat (first | (with_reducible exact HR316.out) | (with_reducible refine Kd.C_alloc ?_ _) | (with_reducible refine Kd.C_drewN ?_ _) | (with_reducible refine Kd.C_drew ?_) | exact HR316.out)) | (with_reducible refine Kd.C_alloc ?_ _) | (with_reducible refine Kd.C_drewN ?_ _) | (with_reducible refine Kd.C_drew ?_)))
                             (case side2 => exact HC316.out)
                             (case side3 => repeat (first | exact (by repeat (first | (with_reducible exact HR320.out) | (with_reducible refine Kd.C_alloc ?_ _) | (with_reducible refine Kd.C_drewN ?_ _) | (with_reducible refine Kd.C_drew ?_) | exact HR320.out)) | (with_reducible refine Kd.C_alloc ?_ _) | (with_reducible refine Kd.C_drewN ?_ _) | (with_reducible refine Kd.C_drew ?_)))
                             (case side4 => exact HC320.out)
                             rintro e w' ⟨rfl, ⟨nd, rfl⟩⟩
                             refine ⟨_, rfl, ?_⟩
                             have q157 : ((ji144) : Int) ≤ ((t301.length : Int) : Int) := od
                             obtain ⟨i0157, hi0157, _, hsz157, _⟩ := info_parts info41
                             have hroom157 : t301.length ≤ co115 := (Kd.R_reads' HO_308000.out).2.1
                             have hC157 : Kd.C k41 _ Ao115 t301.length t301 := (Kd.R_reads' HO_308000.out).2.2
                             have q0157 : (0 : Int) ≤ ((ji144) : Int) := od
                             have hcut157 := cut_from (P := Tryd.prog) 22 41 .i64 Tryd.underlying22 hi0157 3 hsz157 Ao115 t301.length co115 (ji144) q0157 q157
                             have hr157 := Kd.C_drop (m := ((ji144) : Int).toNat) (c := co115) hC157 (by omega) hroom157
                             obtain ⟨A157, hA157⟩ : ∃ A1, A1 = (if co115 = ((ji144) : Int).toNat then Ao115 else (Ao115 : Option Addr).map (·.add (((ji144) : Int).toNat * 3))) := ⟨_, rfl⟩
                             obtain ⟨c157, hc157⟩ : ∃ c1, c1 = co115 - ((ji144) : Int).toNat := ⟨_, rfl⟩
                             have hy157 : y322.length = t301.length - ((ji144) : Int).toNat := (by rw [Ny322.out, List.length_drop] <;> omega)
                             rw [show (t301).drop ((ji144) : Int).toNat = y322 from Ny322.out.symm] at hr157
                             replace hr157 : Kd.C k41 _ A157 y322.length y322 := (by rw [hA157]; exact hr157)
                             rw [← hy157, ← hA157, ← hc157] at hcut157
                             have HR325 := Aside0.mk hr157
                             have HC325 := Aside0.mk (show y322.length ≤ c157 from by rw [hy157, hc157]; exact Nat.sub_le_sub_right hroom157 _)
                             clear hr157 hC157 hroom157 hi0157 hsz157 hc157
                             have KY157 := Aside0.mk hy157
                             have KA157 := Aside0.mk hA157
                             clear hy157 hA157
                             have KL157 := Aside0.mk (show ((ji144) : Int).toNat ≤ t301.length from by omega)
                             replace q157 := eq_true q157
                             have q158 : ((ji144) : Int) ≤ ((t262.length : Int) : Int) := od
                             obtain ⟨i0158, hi0158, _, hsz158, _⟩ := info_parts info41
                             have hroom158 : t262.length ≤ co12 := (Kd.R_reads' HO_269000.out).2.1
                             have hC158 : Kd.C k41 _ Ao12 t262.length t262 := (Kd.R_reads' HO_269000.out).2.2
                             have q0158 : (0 : Int) ≤ ((ji144) : Int) := od
                             have hcut158 := cut_from (P := Tryd.prog) 22 41 .i64 Tryd.underlying22 hi0158 3 hsz158 Ao12 t262.length co12 (ji144) q0158 q158
                             have hr158 := Kd.C_drop (m := ((ji144) : Int).toNat) (c := co12) hC158 (by omega) hroom158
                             obtain ⟨A158, hA158⟩ : ∃ A1, A1 = (if co12 = ((ji144) : Int).toNat then Ao12 else (Ao12 : Option Addr).map (·.add (((ji144) : Int).toNat * 3))) := ⟨_, rfl⟩
                             obtain ⟨c158, hc158⟩ : ∃ c1, c1 = co12 - ((ji144) : Int).toNat := ⟨_, rfl⟩
                             have hy158 : y326.length = t262.length - ((ji144) : Int).toNat := (by rw [Ny326.out, List.length_drop] <;> omega)
                             rw [show (t262).drop ((ji144) : Int).toNat = y326 from Ny326.out.symm] at hr158
                             replace hr158 : Kd.C k41 _ A158 y326.length y326 := (by rw [hA158]; exact hr158)
                             rw [← hy158, ← hA158, ← hc158] at hcut158
                             have HR329 := Aside0.mk hr158
                             have HC329 := Aside0.mk (show y326.length ≤ c158 from by rw [hy158, hc158]; exact Nat.sub_le_sub_right hroom158 _)
                             clear hr158 hC158 hroom158 hi0158 hsz158 hc158
                             have KY158 := Aside0.mk hy158
                             have KA158 := Aside0.mk hA158
                             clear hy158 hA158
                             have KL158 := Aside0.mk (show ((ji144) : Int).toNat ≤ t262.length from by omega)
                             replace q158 := eq_true q158
                             refine hK.out _ _ ⟨(blk_cell BK307.out 0).trans rfl, (blk_cell BK307.out 1).trans rfl, (blk_cell BK307.out 2).trans rfl, (blk_cell BK268.out 0).trans rfl, (blk_cell BK268.out 1).trans rfl, (blk_cell BK268.out 2).trans rfl⟩ (fun hHeld => ?_)
                             clear hK K
                             refine norm_ (a' := ?_) ?_ ?_
                             rotate_left
                             ·show Act.put _ (some 235) _ = _
                              simp only [Act.put, List.setIfInBounds_toArray, List.set_cons_zero, List.set_cons_succ, i64_w, i32_w]
                              rfl
                             refine pure_ (i := 9) (N := some 236) (v := ?_) (a' := ?_) #[true, true, true, true, true, true, true, true, true, true, false, false, false, false, false, false, false, false, false, false, false, false, false, false, false, false, false, false, false, false, false, false] rfl rfl (any_of HT_.out (by kernel_rfl)) (fun _ _ _ h => h) (Or.inl ⟨by rfl, ?_⟩) ?_ ?_
                             rotate_left
                             ·intro w'
                              go_simp
                              with_reducible rfl
                             rotate_left
                             ·simp only [Act.put, List.setIfInBounds_toArray, List.set_cons_zero, List.set_cons_succ, i64_w, i32_w]
                              rfl
                             refine pure_ (i := 10) (N := some 237) (v := ?_) (a' := ?_) #[true, true, true, true, true, true, true, true, true, true, true, false, false, false, false, false, false, false, false, false, false, false, false, false, false, false, false, false, false, false, false, false] rfl rfl (any_of HT_.out (by kernel_rfl)) (fun _ _ _ h => h) (Or.inl ⟨by rfl, ?_⟩) ?_ ?_
                             rotate_left
                             ·intro w'
                              go_simp
                              with_reducible rfl
                             rotate_left
                             ·simp only [Act.put, List.setIfInBounds_toArray, List.set_cons_zero, List.set_cons_succ, i64_w, i32_w]
                              rfl
                             refine pure_ (i := 12) (N := some 239) (v := ?_) (a' := ?_) #[true, true, true, true, true, true, true, true, true, true, true, false, true, false, false, false, false, false, false, false, false, false, false, false, false, false, false, false, false, false, false, false] rfl rfl (any_of HT_.out (by kernel_rfl)) (fun _ _ _ h => h) (Or.inl ⟨by rfl, ?_⟩) ?_ ?_
                             rotate_left
                             ·intro w'
                              go_simp
                              with_reducible rfl
                             rotate_left
                             ·simp only [Act.put, List.setIfInBounds_toArray, List.set_cons_zero, List.set_cons_succ, i64_w, i32_w]
                              rfl
                             refine pure_ (i := 13) (N := some 240) (v := ?_) (a' := ?_) #[true, true, true, true, true, true, true, true, true, true, true, false, true, true, false, false, false, false, false, false, false, false, false, false, false, false, false, false, false, false, false, false] rfl rfl (any_of HT_.out (by kernel_rfl)) (fun _ _ _ h => h) (Or.inl ⟨by rfl, ?_⟩) ?_ ?_
                             rotate_left
                             ·intro w'
                              go_simp
                              with_reducible rfl
                             rotate_left
                             ·simp only [Act.put, List.setIfInBounds_toArray, List.set_cons_zero, List.set_cons_succ, i64_w, i32_w]
                              rfl
                             refine pure_ (i := 15) (N := some 242) (v := ?_) (a' := ?_) #[true, true, true, true, true, true, true, true, true, true, true, false, true, true, false, true, false, false, false, false, false, false, false, false, false, false, false, false, false, false, false, false] rfl rfl (any_of HT_.out (by kernel_rfl)) (fun _ _ _ h => h) (Or.inl ⟨by rfl, ?_⟩) ?_ ?_
                             rotate_left
                             ·intro w'
                              go_simp
                              with_reducible rfl
                             rotate_left
                             ·simp only [Act.put, List.setIfInBounds_toArray, List.set_cons_zero, List.set_cons_succ, i64_w, i32_w]
                              rfl
                             refine pure_ (i := 17) (N := some 244) (v := ?_) (a' := ?_) #[true, true, true, true, true, true, true, true, true, true, true, false, true, true, false, true, false, true, false, false, false, false, false, false, false, false, false, false, false, false, false, false] rfl rfl (any_of HT_.out (by kernel_rfl)) (fun _ _ _ h => h) (Or.inl ⟨by rfl, ?_⟩) ?_ ?_
                             rotate_left
                             ·intro w'
                              go_simp
                              with_reducible rfl
                             rotate_left
                             ·simp only [Act.put, List.setIfInBounds_toArray, List.set_cons_zero, List.set_cons_succ, i64_w, i32_w]
                              rfl
                             refine pure_ (i := 18) (N := some 245) (v := ?_) (a' := ?_) #[true, true, true, true, true, true, true, true, true, true, true, false, true, true, false, true, false, true, true, false, false, false, false, false, false, false, false, false, false, false, false, false] rfl rfl (any_of HT_.out (by kernel_rfl)) (fun _ _ _ h => h) (Or.inl ⟨by rfl, ?_⟩) ?_ ?_
                             rotate_left
                             ·intro w'
                              go_simp
                              with_reducible rfl
                             rotate_left
                             ·simp only [Act.put, List.setIfInBounds_toArray, List.set_cons_zero, List.set_cons_succ, i64_w, i32_w]
                              rfl
                             refine take_ (i := 11) (N := some 238) (v := ?_) (a' := ?_) #[true, true, true, true, true, true, true, true, true, true, true, true, true, true, false, true, false, true, true, false, false, false, false, false, false, false, false, false, false, false, false, false] rfl rfl (take_ofW HT_.out HW_.out (by kernel_rfl)) (fun _ _ _ h => h) (Or.inl ⟨by rfl, ?_⟩) hHeld ?_ ?_
                             rotate_left
                             ·rintro w' ⟨s0, s1, s2, s3, s4, s5⟩
                              go_simp
                              with_reducible rfl
                             rotate_left
                             ·simp only [Act.put, List.setIfInBounds_toArray, List.set_cons_zero, List.set_cons_succ, i64_w, i32_w]
                              rfl
                             refine pure_ (i := 14) (N := some 241) (v := ?_) (a' := ?_) #[true, true, true, true, true, true, true, true, true, true, true, true, true, true, true, true, false, true, true, false, false, false, false, false, false, false, false, false, false, false, false, false] rfl rfl (any_of HT_.out (by kernel_rfl)) (fun _ _ _ h => h) (Or.inl ⟨by rfl, ?_⟩) ?_ ?_
                             rotate_left
                             ·intro w'
                              go_simp
                              with_reducible rfl
                             rotate_left
                             ·simp only [Act.put, List.setIfInBounds_toArray, List.set_cons_zero, List.set_cons_succ, i64_w, i32_w]
                              rfl
                             refine take_ (i := 16) (N := some 243) (v := ?_) (a' := ?_) #[true, true, true, true, true, true, true, true, true, true, true, true, true, true, true, true, true, true, true, false, false, false, false, false, false, false, false, false, false, false, false, false] rfl rfl (take_ofW HT_.out HW_.out (by kernel_rfl)) (fun _ _ _ h => h) (Or.inl ⟨by rfl, ?_⟩) hHeld ?_ ?_
                             rotate_left
                             ·rintro w' ⟨s0, s1, s2, s3, s4, s5⟩
                              go_simp
                              with_reducible rfl
                             rotate_left
                             ·simp only [Act.put, List.setIfInBounds_toArray, List.set_cons_zero, List.set_cons_succ, i64_w, i32_w]
                              rfl
                             refine pure_ (i := 19) (N := some 246) (v := ?_) (a' := ?_) #[true, true, true, true, true, true, true, true, true, true, true, true, true, true, true, true, true, true, true, true, false, false, false, false, false, false, false, false, false, false, false, false] rfl rfl (any_of HT_.out (by kernel_rfl)) (fun _ _ _ h => h) (Or.inl ⟨by rfl, ?_⟩) ?_ ?_
                             rotate_left
                             ·intro w'
                              go_simp
                              with_reducible rfl
                             rotate_left
                             ·simp only [Act.put, List.setIfInBounds_toArray, List.set_cons_zero, List.set_cons_succ, i64_w, i32_w]
                              rfl
                             refine one_ (i := 20) (N := some 247) #[true, true, true, true, true, true, true, true, true, true, true, true, true, true, true, true, true, true, true, true, true, false, false, false, false, false, false, false, false, false, false, false] rfl rfl (one_of HT_.out (by kernel_rfl)) (by decide) (fun K hK => ?_)
                             refine goes_ Tryd.func37 (by kernel_rfl) rfl #[.slice A157 y322.length c157, .slice A158 y326.length c158] (by rfl) rfl rfl ml ?_
                             with_reducible refine (slices_Equal_head_Field_head_Field.calls kj105 _ _ y322 _ _ y326 true _ ?side1 ?side2 ?side3 ?side4 A149.out).mono ?_
                             (case side1 => repeat (first | exact (by repeat (first | (with_reducible exact HR325.out) | (with_reducible refine Kd.C_alloc ?_ _) | (with_reducible refine Kd.C_drewN ?_ _) | (with_reducible refine Kd.C_drew ?_) | exact HR325.out)) | (with_reducible refine Kd.C_alloc ?_ _) | (with_reducible refine Kd.C_drewN ?_ _) | (with_reducible refine Kd.C_drew ?_)))
                             (case side2 => exact HC325.out)
                             (case side3 => repeat (first | exact (by repeat (first | (with_reducible exact HR329.out) | (with_reducible refine Kd.C_alloc ?_ _) | (with_reducible refine Kd.C_drewN ?_ _) | (with_reducible refine Kd.C_drew ?_) | exact HR329.out)) | (with_reducible refine Kd.C_alloc ?_ _) | (with_reducible refine Kd.C_drewN ?_ _) | (with_reducible refine Kd.C_drew ?_)))
                             (case side4 => exact HC329.out)
                             rintro e w' ⟨rfl, ⟨nd, rfl⟩⟩
                             refine ⟨_, rfl, ?_⟩
                             refine hK.out _ _ ⟨(blk_cell BK307.out 0).trans rfl, (blk_cell BK307.out 1).trans rfl, (blk_cell BK307.out 2).trans rfl, (blk_cell BK268.out 0).trans rfl, (blk_cell BK268.out 1).trans rfl, (blk_cell BK268.out 2).trans rfl⟩ (fun hHeld => ?_)
                             clear hK K
                             refine norm_ (a' := ?_) ?_ ?_
                             rotate_left
                             ·show Act.put _ (some 247) _ = _
                              simp only [Act.put, List.setIfInBounds_toArray, List.set_cons_zero, List.set_cons_succ, i64_w, i32_w]
                              rfl
                             refine pure_ (i := 21) (N := some 248) (v := ?_) (a' := ?_) #[true, true, true, true, true, true, true, true, true, true, true, true, true, true, true, true, true, true, true, true, true, true, false, false, false, false, false, false, false, false, false, false] rfl rfl (any_of HT_.out (by kernel_rfl)) (fun _ _ _ h => h) (Or.inl ⟨by rfl, ?_⟩) ?_ ?_
                             rotate_left
                             ·intro w'
                              go_simp
                              with_reducible rfl
                             rotate_left
                             ·simp only [Act.put, List.setIfInBounds_toArray, List.set_cons_zero, List.set_cons_succ, i64_w, i32_w]
                              rfl
                             refine pure_ (i := 22) (N := some 249) (v := ?_) (a' := ?_) #[true, true, true, true, true, true, true, true, true, true, true, true, true, true, true, true, true, true, true, true, true, true, true, false, false, false, false, false, false, false, false, false] rfl rfl (any_of HT_.out (by kernel_rfl)) (fun _ _ _ h => h) (Or.inl ⟨by rfl, ?_⟩) ?_ ?_
                             rotate_left
                             ·intro w'
                              go_simp
                              with_reducible rfl
                             rotate_left
                             ·simp only [Act.put, List.setIfInBounds_toArray, List.set_cons_zero, List.set_cons_succ, i64_w, i32_w]
                              rfl
                             refine pure_ (i := 25) (N := some 252) (v := ?_) (a' := ?_) #[true, true, true, true, true, true, true, true, true, true, true, true, true, true, true, true, true, true, true, true, true, true, true, false, false, true, false, false, false, false, false, false] rfl rfl (any_of HT_.out (by kernel_rfl)) (fun _ _ _ h => h) (Or.inl ⟨by rfl, ?_⟩) ?_ ?_
                             rotate_left
                             ·intro w'
                              go_simp
                              with_reducible rfl
                             rotate_left
                             ·simp only [Act.put, List.setIfInBounds_toArray, List.set_cons_zero, List.set_cons_succ, i64_w, i32_w]
                              rfl
                             refine take_ (i := 23) (N := some 250) (v := ?_) (a' := ?_) #[true, true, true, true, true, true, true, true, true, true, true, true, true, true, true, true, true, true, true, true, true, true, true, true, false, true, false, false, false, false, false, false] rfl rfl (take_ofW HT_.out HW_.out (by kernel_rfl)) (fun _ _ _ h => h) (Or.inl ⟨by rfl, ?_⟩) hHeld ?_ ?_
                             rotate_left
                             ·rintro w' ⟨s0, s1, s2, s3, s4, s5⟩
                              go_simp
                              with_reducible rfl
                             rotate_left
                             ·simp only [Act.put, List.setIfInBounds_toArray, List.set_cons_zero, List.set_cons_succ, i64_w, i32_w]
                              rfl
                             refine one_ (i := 24) (N := some 251) #[true, true, true, true, true, true, true, true, true, true, true, true, true, true, true, true, true, true, true, true, true, true, true, true, true, true, false, false, false, false, false, false] rfl rfl (one_of HT_.out (by kernel_rfl)) (by decide) (fun K hK => ?_)
                             refine goes_ Tryd.func25 (by kernel_rfl) rfl #[.agg #[.slice Ao12 t262.length co12, .string t265, .bool t266]] (by rfl) rfl rfl ml ?_
                             with_reducible refine (head_Message_Text.calls _ _ t262 t265 t266 t331 _ ?side1 ?side2 A151.out).mono ?_
                             (case side1 => repeat (first | exact (Kd.R_reads' HO_269000.out).2.2 | (with_reducible refine Kd.C_alloc ?_ _) | (with_reducible refine Kd.C_drewN ?_ _) | (with_reducible refine Kd.C_drew ?_)))
                             (case side2 => exact (Kd.R_reads' HO_269000.out).2.1)
                             rintro e w159 ⟨rfl, hb⟩
                             refine ⟨_, rfl, ?_⟩
                             have n0_ := Aside0.mk (Kd.R_below (kr HO_269000.out) hb)
                             have n1_ := Aside0.mk (Kd.R_below (kr HO_288000.out) hb)
                             have n2_ := Aside0.mk (Kd.R_below (kr HO_308000.out) hb)
                             have n3_ := Aside0.mk (kb BK257.out hb)
                             have n4_ := Aside0.mk (kb BK268.out hb)
                             have n5_ := Aside0.mk (kb BK287.out hb)
                             have n6_ := Aside0.mk (kb BK307.out hb)
                             have n7_ := Aside0.mk trivial
                             have n8_ := Aside0.mk trivial
                             have n9_ := Aside0.mk trivial
                             have n10_ := Aside0.mk trivial
                             have n11_ := Aside0.mk (below_step bl hb)
                             clear HO_269000
                             clear HO_288000
                             clear HO_308000
                             clear BK257
                             clear BK268
                             clear BK287
                             clear BK307
                             clear HR316
                             clear HR320
                             clear HR325
                             clear HR329
                             clear HB
                             have HO_269000 := n0_
                             have HO_288000 := n1_
                             have HO_308000 := n2_
                             have BK257 := n3_
                             have BK268 := n4_
                             have BK287 := n5_
                             have BK307 := n6_
                             have HR316 := n7_
                             have HR320 := n8_
                             have HR325 := n9_
                             have HR329 := n10_
                             have HB := n11_
                             clear n0_ n1_ n2_ n3_ n4_ n5_ n6_ n7_ n8_ n9_ n10_ n11_
                             (try clear hb)
                             (try clear hb2)
                             (try clear hk)
                             (try clear hi)
                             refine hK.out _ _ ⟨(blk_cell BK307.out 0).trans rfl, (blk_cell BK307.out 1).trans rfl, (blk_cell BK307.out 2).trans rfl, (blk_cell BK268.out 0).trans rfl, (blk_cell BK268.out 1).trans rfl, (blk_cell BK268.out 2).trans rfl⟩ (fun hHeld => ?_)
                             clear hK K
                             refine norm_ (a' := ?_) ?_ ?_
                             rotate_left
                             ·show Act.put _ (some 251) _ = _
                              simp only [Act.put, List.setIfInBounds_toArray, List.set_cons_zero, List.set_cons_succ, i64_w, i32_w]
                              rfl
                             refine pure_ (i := 26) (N := some 253) (v := ?_) (a' := ?_) #[true, true, true, true, true, true, true, true, true, true, true, true, true, true, true, true, true, true, true, true, true, true, true, true, true, true, true, false, false, false, false, false] rfl rfl (any_of HT_.out (by kernel_rfl)) (fun _ _ _ h => h) (Or.inl ⟨by rfl, ?_⟩) ?_ ?_
                             rotate_left
                             ·intro w'
                              go_simp
                              with_reducible rfl
                             rotate_left
                             ·simp only [Act.put, List.setIfInBounds_toArray, List.set_cons_zero, List.set_cons_succ, i64_w, i32_w]
                              rfl
                             refine pure_ (i := 27) (N := some 254) (v := ?_) (a' := ?_) #[true, true, true, true, true, true, true, true, true, true, true, true, true, true, true, true, true, true, true, true, true, true, true, true, true, true, true, true, false, false, false, false] rfl rfl (any_of HT_.out (by kernel_rfl)) (fun _ _ _ h => h) (Or.inl ⟨by rfl, ?_⟩) ?_ ?_
                             rotate_left
                             ·intro w'
                              go_simp
                              with_reducible rfl
                             rotate_left
                             ·simp only [Act.put, List.setIfInBounds_toArray, List.set_cons_zero, List.set_cons_succ, i64_w, i32_w]
                              rfl
                             refine pure_ (i := 28) (N := some 255) (v := ?_) (a' := ?_) #[true, true, true, true, true, true, true, true, true, true, true, true, true, true, true, true, true, true, true, true, true, true, true, true, true, true, true, true, true, false, false, false] rfl rfl (any_of HT_.out (by kernel_rfl)) (fun _ _ _ h => h) (Or.inl ⟨by rfl, ?_⟩) ?_ ?_
                             rotate_left
                             ·intro w'
                              go_simp
                              with_reducible rfl
                             rotate_left
                             ·simp only [Act.put, List.setIfInBounds_toArray, List.set_cons_zero, List.set_cons_succ, i64_w, i32_w]
                              rfl
                             refine one_ (i := 29) (N := some 256) #[true, true, true, true, true, true, true, true, true, true, true, true, true, true, true, true, true, true, true, true, true, true, true, true, true, true, true, true, true, true, false, false] rfl rfl (one_of HT_.out (by kernel_rfl)) (by decide) (fun K hK => ?_)
                             refine goes_ Tryd.func13 (by kernel_rfl) rfl #[] (by rfl) rfl rfl ml ?_
                             with_reducible refine (postriderlaw07_wakes.calls kj105  t332 _ ?side1 A153.out).mono ?_
                             (case side1 => exact Glob.below HG.out bl)
                             rintro e w160 ⟨rfl, hb⟩
                             refine ⟨_, rfl, ?_⟩
                             have n0_ := Aside0.mk (Kd.R_below (kr HO_269000.out) hb)
                             have n1_ := Aside0.mk (Kd.R_below (kr HO_288000.out) hb)
                             have n2_ := Aside0.mk (Kd.R_below (kr HO_308000.out) hb)
                             have n3_ := Aside0.mk (kb BK257.out hb)
                             have n4_ := Aside0.mk (kb BK268.out hb)
                             have n5_ := Aside0.mk (kb BK287.out hb)
                             have n6_ := Aside0.mk (kb BK307.out hb)
                             have n7_ := Aside0.mk trivial
                             have n8_ := Aside0.mk trivial
                             have n9_ := Aside0.mk trivial
                             have n10_ := Aside0.mk trivial
                             have n11_ := Aside0.mk (below_step bl hb)
                             clear HO_269000
                             clear HO_288000
                             clear HO_308000
                             clear BK257
                             clear BK268
                             clear BK287
                             clear BK307
                             clear HR316
                             clear HR320
                             clear HR325
                             clear HR329
                             clear HB
                             have HO_269000 := n0_
                             have HO_288000 := n1_
                             have HO_308000 := n2_
                             have BK257 := n3_
                             have BK268 := n4_
                             have BK287 := n5_
                             have BK307 := n6_
                             have HR316 := n7_
                             have HR320 := n8_
                             have HR325 := n9_
                             have HR329 := n10_
                             have HB := n11_
                             clear n0_ n1_ n2_ n3_ n4_ n5_ n6_ n7_ n8_ n9_ n10_ n11_
                             (try clear hb)
                             (try clear hb2)
                             (try clear hk)
                             (try clear hi)
                             refine hK.out _ _ ⟨(blk_cell BK307.out 0).trans rfl, (blk_cell BK307.out 1).trans rfl, (blk_cell BK307.out 2).trans rfl, (blk_cell BK268.out 0).trans rfl, (blk_cell BK268.out 1).trans rfl, (blk_cell BK268.out 2).trans rfl⟩ (fun hHeld => ?_)
                             clear hK K
                             refine norm_ (a' := ?_) ?_ ?_
                             rotate_left
                             ·show Act.put _ (some 256) _ = _
                              simp only [Act.put, List.setIfInBounds_toArray, List.set_cons_zero, List.set_cons_succ, i64_w, i32_w]
                              rfl
                             refine pure_ (i := 30) (N := some 257) (v := ?_) (a' := ?_) #[true, true, true, true, true, true, true, true, true, true, true, true, true, true, true, true, true, true, true, true, true, true, true, true, true, true, true, true, true, true, true, false] rfl rfl (any_of HT_.out (by kernel_rfl)) (fun _ _ _ h => h) (Or.inl ⟨by rfl, ?_⟩) ?_ ?_
                             rotate_left
                             ·intro w'
                              go_simp
                              with_reducible rfl
                             rotate_left
                             ·simp only [Act.put, List.setIfInBounds_toArray, List.set_cons_zero, List.set_cons_succ, i64_w, i32_w]
                              rfl
                             refine pure_ (i := 31) (N := some 6) (v := ?_) (a' := ?_) #[true, true, true, true, true, true, true, true, true, true, true, true, true, true, true, true, true, true, true, true, true, true, true, true, true, true, true, true, true, true, true, true] rfl rfl (any_of HT_.out (by kernel_rfl)) (fun _ _ _ h => h) (Or.inl ⟨by rfl, ?_⟩) ?_ ?_
                             rotate_left
                             ·intro w'
                              go_simp
                              with_reducible rfl
                             rotate_left
                             ·simp only [Act.put, List.setIfInBounds_toArray, List.set_cons_zero, List.set_cons_succ, i64_w, i32_w]
                              rfl
                             refine done_ (done_of HT_.out (by kernel_rfl)) ?_
                             try go_wp2
                             go_ret
                             exact ⟨by first | rfl | (simp [bneNil]; done) | (simp [errW_none, errW_some] <;> rfl) | (simp only [← hji48, ← hji137, ← hji144]; first | rfl | (simp [errW_none, errW_some] <;> rfl)) | (simp [*, errW_none, errW_some] <;> rfl), by repeat (first | (with_reducible first | exact HB.out | apply below_alloc | apply pw_below_drewN | apply below_drew1 | refine below_set ?_ GE257.out | refine below_set ?_ GE268.out | refine below_set ?_ GE287.out | refine below_set ?_ GE307.out) | exact HB.out)⟩
                            ·rw [if_neg c152] at H
                             have c152b0 : (t331.toList == t258.toList) = false := beq_eq_false_iff_ne.mpr c152
                             have c152b1 : (t331.toList != t258.toList) = true := bne_iff_ne.mpr c152
                             exact absurd ((Option.some.inj H).trans HT_r.out) (by decide)
                           ·replace c150 := Bool.eq_false_iff.mpr c150
                            subst c150
                            have H1 : (some false) = some r := by rw [if_neg (show ¬ (false = true) by decide)] at H; exact H
                            clear H
                            have H := H1
                            clear H1
                            exact absurd ((Option.some.inj H).trans HT_r.out) (by decide)
                          ·rw [if_neg c148] at H
                           exact absurd H (by simp)
                         ·rw [if_neg c146] at H
                          exact absurd H (by simp)
                        ·rw [if_neg c145] at H
                         exact absurd H (by simp)
                       ·replace c143 := Bool.eq_false_iff.mpr c143
                        subst c143
                        have H1 : (some false) = some r := by rw [if_neg (show ¬ (false = true) by decide)] at H; exact H
                        clear H
                        have H := H1
                        clear H1
                        exact absurd ((Option.some.inj H).trans HT_r.out) (by decide)
                      ·rw [if_neg c141] at H
                       exact absurd H (by simp)
                     ·rw [if_neg c139] at H
                      exact absurd H (by simp)
                    ·rw [if_neg c138] at H
                     exact absurd H (by simp)
         ·rw [if_neg c52] at H
          exact absurd H (by simp)
        ·rw [if_neg c50] at H
         exact absurd H (by simp)
       ·rw [if_neg c49] at H
        exact absurd H (by simp)

/-- THE ONE PURE STATEMENT of postriderlaw07_HeadBytes: yours. -/
def postriderlaw07_HeadBytes.Pure : Prop := ∀ (l0 : List (S111)) (a1 : ByteArray) (a2_0 : ByteArray) (a2_1 : Int) (a2_2 : Bool), l0.length ≤ maxLen → (∀ y_ ∈ l0, (y_.f0.size ≤ maxLen ∧ y_.f1.size ≤ maxLen ∧ (Lit.int .u8 y_.f2).wf = true)) → a1.size ≤ 140737488351232 → a2_0.size ≤ maxLen → (Lit.int .u8 a2_1).wf = true → ∃ k, postriderlaw07_HeadBytes.f k l0 a1 a2_0 a2_1 a2_2 = some true
theorem postriderlaw07_HeadBytes.walk (P : postriderlaw07_HeadBytes.Pure) (A0 : Option Addr) (c0 : Nat) (l0 : List (S111)) (a1 : ByteArray) (a2_0 : ByteArray) (a2_1 : Int) (a2_2 : Bool) (w : World) (hr0 : Kd.C k111 w A0 l0.length l0) (hc0 : l0.length ≤ c0) (hm0 : l0.length ≤ maxLen) (hw0 : ∀ y_ ∈ l0, (y_.f0.size ≤ maxLen ∧ y_.f1.size ≤ maxLen ∧ (Lit.int .u8 y_.f2).wf = true)) (w1 : a1.size ≤ 140737488351232) (w2_0 : a2_0.size ≤ maxLen) (w2_1 : (Lit.int .u8 a2_1).wf = true) (hG : Glob w) :
  Calls Tryd.prog 7 #[.slice A0 l0.length c0, .string a1, .agg #[.string a2_0, .int .u8 a2_1, .bool a2_2]] w fun e w' => e = .returned (.bool true) ∧ Below w.heap.size w w' := by
 obtain ⟨k, h⟩ := P l0 a1 a2_0 a2_1 a2_2 hm0 hw0 w1 w2_0 w2_1
 refine (postriderlaw07_HeadBytes.calls k _ _ l0 a1 a2_0 a2_1 a2_2 true w hr0 hc0 hG rfl h).mono ?_
 rintro e w' ⟨rfl, hd⟩
 exact ⟨rfl, hd⟩

end Go.Proofs.YtdciiahlakgikaaDoor.Q
