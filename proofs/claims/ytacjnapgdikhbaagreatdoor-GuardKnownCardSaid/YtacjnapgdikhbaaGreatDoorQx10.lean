/- Walks of functions. -/
import Derived.Test.YtacjnapgdikhbaaGreatDoorQx0
import Derived.Test.YtacjnapgdikhbaaGreatDoorQx7
section
namespace Go.Proofs.YtacjnapgdikhbaaGreatDoor.Q
open Go.RowKit Go.Proofs.YtacjnapgdikhbaaGreatDoorW.PrintWords Go.Proofs.YtacjnapgdikhbaaGreatDoorW.PrintLast Go.Proofs.YtacjnapgdikhbaaGreatDoorW.PrintMore
attribute [local go_sem] max2_int min2_int max_two min_two max_three min_three max_four min_four   -- for this text's walks alone
set_option linter.unusedVariables false
set_option linter.unusedSimpArgs false

/-! ### head_Parse: function 21 -/
mutual
def head_Parse.j1 : Nat → List ByteArray → Bool → ByteArray → Bool → Option ((List (S72)) × ByteArray × Bool × Int)
 | 0, _, _, _, _ => none
 | k + 1, x4, x5, x219001, x219002 => head_Parse.l1 k x4 x5 ([] : List (S72)) x219001 x219002
def head_Parse.l1 : Nat → List ByteArray → Bool → List (S72) → ByteArray → Bool → Option ((List (S72)) × ByteArray × Bool × Int)
 | 0, _, _, _, _, _ => none
 | k + 1, x4, x5, x219000, x219001, x219002 => if x5 = true then (head_Parse.j3 k x4 x5 (decide ((x4.length : Int) > 0)) x219000 x219001 x219002) else (head_Parse.j3 k x4 x5 false x219000 x219001 x219002)
def head_Parse.j3 : Nat → List ByteArray → Bool → Bool → List (S72) → ByteArray → Bool → Option ((List (S72)) × ByteArray × Bool × Int)
 | 0, _, _, _, _, _, _ => none
 | k + 1, x4, x5, x53, x219000, x219001, x219002 => if x53 = true then (head_Parse.l2 k x4 1 x219000 x219001 x219002) else (if x5 = true then (some (x219000, x219001, x219002, 0)) else (some (([] : List (S72)), (⟨#[]⟩ : ByteArray), false, 5)))
def head_Parse.l2 : Nat → List ByteArray → Int → List (S72) → ByteArray → Bool → Option ((List (S72)) × ByteArray × Bool × Int)
 | 0, _, _, _, _, _ => none
 | k + 1, x4, x10, x219000, x219001, x219002 => if x10 < (x4.length : Int) then (if 0 ≤ x10 then ((head_white.f (rdOf ByteArray.empty x4 x10)).bind fun t229 => (if t229 = true then (head_Parse.l2 k x4 (wrap64 (x10 + 1)) x219000 x219001 x219002) else (if x10 ≤ (x4.length : Int) then ((head_field.f k (x4.take (x10 : Int).toNat)).bind fun bt235 => (if bt235.2.2.2 = true then (if x219000.length < 2932031007402 then (head_Parse.l1 k (x4.drop (x10 : Int).toNat) bt235.2.2.2 (x219000 ++ [(⟨bt235.1, bt235.2.1, bt235.2.2.1⟩ : S72)]) x219001 x219002) else (none)) else (head_Parse.l1 k (x4.drop (x10 : Int).toNat) bt235.2.2.2 x219000 x219001 x219002))) else (none)))) else (none)) else (if 0 ≤ x10 then (if x10 ≤ (x4.length : Int) then ((head_field.f k (x4.take (x10 : Int).toNat)).bind fun bt253 => (if bt253.2.2.2 = true then (if x219000.length < 2932031007402 then (head_Parse.l1 k (x4.drop (x10 : Int).toNat) bt253.2.2.2 (x219000 ++ [(⟨bt253.1, bt253.2.1, bt253.2.2.1⟩ : S72)]) x219001 x219002) else (none)) else (head_Parse.l1 k (x4.drop (x10 : Int).toNat) bt253.2.2.2 x219000 x219001 x219002))) else (none)) else (none))
def head_Parse.l0 : Nat → List ByteArray → Bool → Int → List ByteArray → Int → Int → ByteArray → Bool → Option ((List (S72)) × ByteArray × Bool × Int)
 | 0, _, _, _, _, _, _, _, _ => none
 | k + 1, x4, x5, x6, x32, x33, x34, x219001, x219002 => if x34 < x33 then (if 0 ≤ x34 then (if x34 < (x32.length : Int) then (if (rdOf ByteArray.empty x32 x34).size + 2 ≤ 9223372036854775807 then (if x219001.size + ((rdOf ByteArray.empty x32 x34) ++ (⟨#[13, 10]⟩ : ByteArray)).size ≤ 9223372036854775807 then (head_Parse.l0 k x4 x5 x6 x32 x33 (wrap64 (x34 + 1)) (x219001 ++ ((rdOf ByteArray.empty x32 x34) ++ (⟨#[13, 10]⟩ : ByteArray))) x219002) else (none)) else (none)) else (none)) else (none)) else (if 0 ≤ x6 then (if x6 ≤ (x4.length : Int) then (head_Parse.j1 k (x4.take (x6 : Int).toNat) x5 x219001 x219002) else (none)) else (none))
end
def head_Parse.f (k : Nat) (a0 : ByteArray) : Option ((List (S72)) × ByteArray × Bool × Int) := if (a0.size : Int) > 8192 then (some (([] : List (S72)), (⟨#[]⟩ : ByteArray), false, 3)) else ((head_lines.f k a0).bind fun bt213 => ((slices_Index_string_string.f bt213.1 (⟨#[]⟩ : ByteArray)).bind fun t217 => (if t217 < 0 then (head_Parse.j1 k bt213.1 bt213.2 (⟨#[]⟩ : ByteArray) (decide (t217 < 0))) else (if 0 ≤ (wrap64 (t217 + 1)) then (if (wrap64 (t217 + 1)) ≤ (bt213.1.length : Int) then ((some (bt213.1.drop ((wrap64 (t217 + 1)) : Int).toNat : List ByteArray)).bind fun y219 => (head_Parse.l0 k bt213.1 bt213.2 t217 y219 (y219.length : Int) 0 (⟨#[]⟩ : ByteArray) (decide (t217 < 0)))) else (none)) else (none)))))
theorem head_Parse.mono_l : ∀ k, (∀ y0 y1 y2 y3, LeO (head_Parse.j1 k y0 y1 y2 y3) (head_Parse.j1 (k + 1) y0 y1 y2 y3)) ∧ (∀ y0 y1 y2 y3 y4, LeO (head_Parse.l1 k y0 y1 y2 y3 y4) (head_Parse.l1 (k + 1) y0 y1 y2 y3 y4)) ∧ (∀ y0 y1 y2 y3 y4 y5, LeO (head_Parse.j3 k y0 y1 y2 y3 y4 y5) (head_Parse.j3 (k + 1) y0 y1 y2 y3 y4 y5)) ∧ (∀ y0 y1 y2 y3 y4, LeO (head_Parse.l2 k y0 y1 y2 y3 y4) (head_Parse.l2 (k + 1) y0 y1 y2 y3 y4)) ∧ (∀ y0 y1 y2 y3 y4 y5 y6 y7, LeO (head_Parse.l0 k y0 y1 y2 y3 y4 y5 y6 y7) (head_Parse.l0 (k + 1) y0 y1 y2 y3 y4 y5 y6 y7))
 | 0 => ⟨fun _ _ _ _ r h => by simp [head_Parse.j1] at h, fun _ _ _ _ _ r h => by simp [head_Parse.l1] at h, fun _ _ _ _ _ _ r h => by simp [head_Parse.j3] at h, fun _ _ _ _ _ r h => by simp [head_Parse.l2] at h, fun _ _ _ _ _ _ _ _ r h => by simp [head_Parse.l0] at h⟩
 | k + 1 => by
  obtain ⟨ih0, ih1, ih2, ih3, ih4⟩ := head_Parse.mono_l k
  refine ⟨?_, ?_, ?_, ?_, ?_⟩
  ·intro y0 y1 y2 y3
   unfold head_Parse.j1
   repeat' first
   | (with_reducible exact ih0 _ _ _ _)
   | (with_reducible exact ih1 _ _ _ _ _)
   | (with_reducible exact ih2 _ _ _ _ _ _)
   | (with_reducible exact ih3 _ _ _ _ _)
   | (with_reducible exact ih4 _ _ _ _ _ _ _ _)
   | (with_reducible exact head_field.mono _ _)
   | (with_reducible exact head_lines.mono _ _)
   | (with_reducible exact LeO.refl _)
   | (with_reducible exact LeO.none _)
   | (with_reducible refine LeO.ite ?_ ?_)
   | (with_reducible refine LeO.bind ?_ (fun _ => ?_))
   | exact ih0 _ _ _ _
   | exact ih1 _ _ _ _ _
   | exact ih2 _ _ _ _ _ _
   | exact ih3 _ _ _ _ _
   | exact ih4 _ _ _ _ _ _ _ _
   | exact head_field.mono _ _
   | exact head_lines.mono _ _
   | exact LeO.none _
   | refine LeO.ite ?_ ?_
   | refine LeO.bind ?_ (fun _ => ?_)
  ·intro y0 y1 y2 y3 y4
   unfold head_Parse.l1
   repeat' first
   | (with_reducible exact ih0 _ _ _ _)
   | (with_reducible exact ih1 _ _ _ _ _)
   | (with_reducible exact ih2 _ _ _ _ _ _)
   | (with_reducible exact ih3 _ _ _ _ _)
   | (with_reducible exact ih4 _ _ _ _ _ _ _ _)
   | (with_reducible exact head_field.mono _ _)
   | (with_reducible exact head_lines.mono _ _)
   | (with_reducible exact LeO.refl _)
   | (with_reducible exact LeO.none _)
   | (with_reducible refine LeO.ite ?_ ?_)
   | (with_reducible refine LeO.bind ?_ (fun _ => ?_))
   | exact ih0 _ _ _ _
   | exact ih1 _ _ _ _ _
   | exact ih2 _ _ _ _ _ _
   | exact ih3 _ _ _ _ _
   | exact ih4 _ _ _ _ _ _ _ _
   | exact head_field.mono _ _
   | exact head_lines.mono _ _
   | exact LeO.none _
   | refine LeO.ite ?_ ?_
   | refine LeO.bind ?_ (fun _ => ?_)
  ·intro y0 y1 y2 y3 y4 y5
   unfold head_Parse.j3
   repeat' first
   | (with_reducible exact ih0 _ _ _ _)
   | (with_reducible exact ih1 _ _ _ _ _)
   | (with_reducible exact ih2 _ _ _ _ _ _)
   | (with_reducible exact ih3 _ _ _ _ _)
   | (with_reducible exact ih4 _ _ _ _ _ _ _ _)
   | (with_reducible exact head_field.mono _ _)
   | (with_reducible exact head_lines.mono _ _)
   | (with_reducible exact LeO.refl _)
   | (with_reducible exact LeO.none _)
   | (with_reducible refine LeO.ite ?_ ?_)
   | (with_reducible refine LeO.bind ?_ (fun _ => ?_))
   | exact ih0 _ _ _ _
   | exact ih1 _ _ _ _ _
   | exact ih2 _ _ _ _ _ _
   | exact ih3 _ _ _ _ _
   | exact ih4 _ _ _ _ _ _ _ _
   | exact head_field.mono _ _
   | exact head_lines.mono _ _
   | exact LeO.none _
   | refine LeO.ite ?_ ?_
   | refine LeO.bind ?_ (fun _ => ?_)
  ·intro y0 y1 y2 y3 y4
   unfold head_Parse.l2
   repeat' first
   | (with_reducible exact ih0 _ _ _ _)
   | (with_reducible exact ih1 _ _ _ _ _)
   | (with_reducible exact ih2 _ _ _ _ _ _)
   | (with_reducible exact ih3 _ _ _ _ _)
   | (with_reducible exact ih4 _ _ _ _ _ _ _ _)
   | (with_reducible exact head_field.mono _ _)
   | (with_reducible exact head_lines.mono _ _)
   | (with_reducible exact LeO.refl _)
   | (with_reducible exact LeO.none _)
   | (with_reducible refine LeO.ite ?_ ?_)
   | (with_reducible refine LeO.bind ?_ (fun _ => ?_))
   | exact ih0 _ _ _ _
   | exact ih1 _ _ _ _ _
   | exact ih2 _ _ _ _ _ _
   | exact ih3 _ _ _ _ _
   | exact ih4 _ _ _ _ _ _ _ _
   | exact head_field.mono _ _
   | exact head_lines.mono _ _
   | exact LeO.none _
   | refine LeO.ite ?_ ?_
   | refine LeO.bind ?_ (fun _ => ?_)
  ·intro y0 y1 y2 y3 y4 y5 y6 y7
   unfold head_Parse.l0
   repeat' first
   | (with_reducible exact ih0 _ _ _ _)
   | (with_reducible exact ih1 _ _ _ _ _)
   | (with_reducible exact ih2 _ _ _ _ _ _)
   | (with_reducible exact ih3 _ _ _ _ _)
   | (with_reducible exact ih4 _ _ _ _ _ _ _ _)
   | (with_reducible exact head_field.mono _ _)
   | (with_reducible exact head_lines.mono _ _)
   | (with_reducible exact LeO.refl _)
   | (with_reducible exact LeO.none _)
   | (with_reducible refine LeO.ite ?_ ?_)
   | (with_reducible refine LeO.bind ?_ (fun _ => ?_))
   | exact ih0 _ _ _ _
   | exact ih1 _ _ _ _ _
   | exact ih2 _ _ _ _ _ _
   | exact ih3 _ _ _ _ _
   | exact ih4 _ _ _ _ _ _ _ _
   | exact head_field.mono _ _
   | exact head_lines.mono _ _
   | exact LeO.none _
   | refine LeO.ite ?_ ?_
   | refine LeO.bind ?_ (fun _ => ?_)
theorem head_Parse.mono : ∀ a0 k, LeO (head_Parse.f k a0) (head_Parse.f (k + 1) a0) := by
 intro a0 k
 obtain ⟨ih0, ih1, ih2, ih3, ih4⟩ := head_Parse.mono_l k
 unfold head_Parse.f
 repeat' first
   | (with_reducible exact ih0 _ _ _ _)
   | (with_reducible exact ih1 _ _ _ _ _)
   | (with_reducible exact ih2 _ _ _ _ _ _)
   | (with_reducible exact ih3 _ _ _ _ _)
   | (with_reducible exact ih4 _ _ _ _ _ _ _ _)
   | (with_reducible exact head_field.mono _ _)
   | (with_reducible exact head_lines.mono _ _)
   | (with_reducible exact LeO.refl _)
   | (with_reducible exact LeO.none _)
   | (with_reducible refine LeO.ite ?_ ?_)
   | (with_reducible refine LeO.bind ?_ (fun _ => ?_))
   | exact ih0 _ _ _ _
   | exact ih1 _ _ _ _ _
   | exact ih2 _ _ _ _ _ _
   | exact ih3 _ _ _ _ _
   | exact ih4 _ _ _ _ _ _ _ _
   | exact head_field.mono _ _
   | exact head_lines.mono _ _
   | exact LeO.none _
   | refine LeO.ite ?_ ?_
   | refine LeO.bind ?_ (fun _ => ?_)
set_option maxHeartbeats 8000000 in
set_option maxRecDepth 100000 in
theorem head_Parse.calls (k : Nat) (a0 : ByteArray) (r1 : List (S72)) (r2 : ByteArray) (r3 : Bool) (r4 : Int) (w : World) (hG : Glob w) (h : head_Parse.f k a0 = some (r1, r2, r3, r4)) :
  Calls Tryz.prog 21 #[.string a0] w fun e w' => ∃ v0_ : Value, e = .returned (.tuple #[.agg #[v0_, .string r2, .bool r3], .int .i64 r4]) ∧ Kd.R k72 72 w' w.heap.size (fun _ => True) v0_ r1 ∧ Below w.heap.size w w' := by
 have hu24 := Tryz.underlying24
 have hu72 := Tryz.underlying72
 have HB := Aside0.mk (Below.refl w.heap.size w)
 have HG := Aside0.mk hG
 clear hG
 have H : (if (a0.size : Int) > 8192 then (some (([] : List (S72)), (⟨#[]⟩ : ByteArray), false, 3)) else ((head_lines.f k a0).bind fun bt213 => ((slices_Index_string_string.f bt213.1 (⟨#[]⟩ : ByteArray)).bind fun t217 => (if t217 < 0 then (head_Parse.j1 k bt213.1 bt213.2 (⟨#[]⟩ : ByteArray) (decide (t217 < 0))) else (if 0 ≤ (wrap64 (t217 + 1)) then (if (wrap64 (t217 + 1)) ≤ (bt213.1.length : Int) then ((some (bt213.1.drop ((wrap64 (t217 + 1)) : Int).toNat : List ByteArray)).bind fun y219 => (head_Parse.l0 k bt213.1 bt213.2 t217 y219 (y219.length : Int) 0 (⟨#[]⟩ : ByteArray) (decide (t217 < 0)))) else (none)) else (none)))))) = some (r1, r2, r3, r4) := h
 clear h
 by_cases c2 : (a0.size : Int) > 8192
 ·rw [if_pos c2] at H
  have c2b0 : decide (8192 < (a0.size : Int)) = true := decide_eq_true c2
  have c2b1 : decide (8192 < a0.size) = true := decide_eq_true (by omega)
  clear c2
  simp only [Option.some.injEq, Prod.mk.injEq] at H
  obtain ⟨rfl, rfl, rfl, rfl⟩ := H
  go_enter Tryz.func21, Tryz.ntmps21
  go_wp2_with (first | ((with_reducible refine gate_dst (N := 2) rfl ?_); (try (refine gate_guard (by rfl) ?_; dsimp only)); refine box_event ?hg (N := 2) ?hd (cs := #[.slice none 0 0, .string (⟨#[]⟩ : ByteArray), .bool false]) (t := 24) ?hr ?_; (case hd => rfl); (case hg => rfl); (case hr => first | (go_simp; done) | (go_simp; rfl)); intro gb212 hg w3 hbox hb; have n0_ := Aside0.mk (below_step bl hb); have n1_ := Aside0.mk (hbox); have n2_ := Aside0.mk ((by rw [hg]; exact (below_size bl) : w.heap.size ≤ gb212)); have n3_ := Aside0.mk ((by rw [hg]; exact (below_size bl) : w.heap.size ≤ gb212)); clear HB; have HB := n0_; have BK212 := n1_; have GW212 := n2_; have GE212 := n3_; clear n0_ n1_ n2_ n3_; clear hb hbox hg; have hcz4_0 : w3.cell? ⟨gb212, 0, none⟩ = some (.slice none 0 0) := (blk_cell BK212.out 0).trans rfl; have hcz4_1 : w3.cell? ⟨gb212, 1, none⟩ = some (.string (⟨#[]⟩ : ByteArray)) := (blk_cell BK212.out 1).trans rfl; have hcz4_2 : w3.cell? ⟨gb212, 2, none⟩ = some (.bool false) := (blk_cell BK212.out 2).trans rfl; have hfz4_0 := blk_frozen BK212.out 0; have hfz4_1 := blk_frozen BK212.out 1; have hfz4_2 := blk_frozen BK212.out 2) | ((with_reducible refine gate_store (t := 24) (p := 2) rfl ?_); refine store_event (t := 24) (p := 2) (v := ?vo_w5) (w1 := (((w3.setCell ⟨gb212, 0, none⟩ (.slice none 0 0)).setCell ⟨gb212, 1, none⟩ (.string (⟨#[]⟩ : ByteArray))).setCell ⟨gb212, 2, none⟩ (.bool false))) ?hg ?ho ?hn ?hr ?_; (case ho => rfl); (case hg => rfl); (case hn => rfl); (case hr => first | (go_simp; done) | (go_simp; rfl)); intro w5 hw; have n0_ : Aside0 (w5.heap[gb212]? = some (.cells #[.slice none 0 0, .string (⟨#[]⟩ : ByteArray), .bool false] 24 (0, 0))) := ⟨(by rw [hw]; exact (by (with_reducible repeat (first | refine blk_drewN ?_ _ | refine blk_drew ?_ | refine blk_alloc ?_ _)); refine blk_put (cs := #[.slice none 0 0, .string (⟨#[]⟩ : ByteArray), .bool false]) ?_ 2 _ rfl; (with_reducible repeat (first | refine blk_drewN ?_ _ | refine blk_drew ?_ | refine blk_alloc ?_ _)); refine blk_put (cs := #[.slice none 0 0, .string (⟨#[]⟩ : ByteArray), .bool false]) ?_ 1 _ rfl; (with_reducible repeat (first | refine blk_drewN ?_ _ | refine blk_drew ?_ | refine blk_alloc ?_ _)); refine blk_put (cs := #[.slice none 0 0, .string (⟨#[]⟩ : ByteArray), .bool false]) ?_ 0 _ rfl; (with_reducible repeat (first | refine blk_drewN ?_ _ | refine blk_drew ?_ | refine blk_alloc ?_ _)); exact BK212.out))⟩; have n1_ : Aside0 (Below w.heap.size w w5) := ⟨(by rw [hw]; exact bl)⟩; clear hw; clear BK212; clear HB; have BK212 := n0_; have HB := n1_; clear n0_ n1_))
  refine bodyPost_ret (results_ct rfl _ _ gb212 24 #[.slice none 0 0, .string (⟨#[]⟩ : ByteArray), .bool false] (0, 0) _ rfl (bk BK212.out) Tryz.underlying24 rfl (by kernel_rfl)) rfl ?_
  exact ⟨_, by first | rfl | (simp [errW_none, errW_some] <;> rfl) | (simp [*, errW_none, errW_some] <;> rfl), by first | exact Kd.R_nil _ _ _ _ _ | exact Kd.N_nil _ _ _ _ _ | exact Kd.V_nil _ _ _ _ _ | exact Kd.Q_nil _ _ _ _ _ | exact Kd.S_nil _ _ _ _ _, by repeat (first | (with_reducible first | exact HB.out | apply below_alloc | apply pw_below_drewN | apply below_drew1 | refine below_set ?_ GE212.out) | exact HB.out)⟩
 ·rw [if_neg c2] at H
  have c2b0 : decide (8192 < (a0.size : Int)) = false := decide_eq_false c2
  have c2b1 : decide (8192 < a0.size) = false := decide_eq_false (by omega)
  clear c2
  replace H := Option.bind_eq_some_iff.mp H
  obtain ⟨⟨t213, t214⟩, A60, H⟩ := H
  replace H : ((slices_Index_string_string.f t213 (⟨#[]⟩ : ByteArray)).bind fun t217 => (if t217 < 0 then (head_Parse.j1 k t213 t214 (⟨#[]⟩ : ByteArray) (decide (t217 < 0))) else (if 0 ≤ (wrap64 (t217 + 1)) then (if (wrap64 (t217 + 1)) ≤ (t213.length : Int) then ((some (t213.drop ((wrap64 (t217 + 1)) : Int).toNat : List ByteArray)).bind fun y219 => (head_Parse.l0 k t213 t214 t217 y219 (y219.length : Int) 0 (⟨#[]⟩ : ByteArray) (decide (t217 < 0)))) else (none)) else (none)))) = some (r1, r2, r3, r4) := H
  have A6 := Aside0.mk A60
  clear A60
  replace H := Option.bind_eq_some_iff.mp H
  obtain ⟨t217, A70, H⟩ := H
  replace H : (if t217 < 0 then (head_Parse.j1 k t213 t214 (⟨#[]⟩ : ByteArray) (decide (t217 < 0))) else (if 0 ≤ (wrap64 (t217 + 1)) then (if (wrap64 (t217 + 1)) ≤ (t213.length : Int) then ((some (t213.drop ((wrap64 (t217 + 1)) : Int).toNat : List ByteArray)).bind fun y219 => (head_Parse.l0 k t213 t214 t217 y219 (y219.length : Int) 0 (⟨#[]⟩ : ByteArray) (decide (t217 < 0)))) else (none)) else (none))) = some (r1, r2, r3, r4) := H
  have A7 := Aside0.mk A70
  clear A70
  have HC8 := Aside0.mk H
  clear H
  go_enter Tryz.func21, Tryz.ntmps21
  go_upto_if 28 with (first | ((with_reducible refine gate_dst (N := 2) rfl ?_); (try (refine gate_guard (by rfl) ?_; dsimp only)); refine box_event ?hg (N := 2) ?hd (cs := #[.slice none 0 0, .string (⟨#[]⟩ : ByteArray), .bool false]) (t := 24) ?hr ?_; (case hd => rfl); (case hg => rfl); (case hr => first | (go_simp; done) | (go_simp; rfl)); intro gb212 hg w9 hbox hb; have n0_ := Aside0.mk (below_step bl hb); have n1_ := Aside0.mk (hbox); have n2_ := Aside0.mk ((by rw [hg]; exact (below_size bl) : w.heap.size ≤ gb212)); have n3_ := Aside0.mk ((by rw [hg]; exact (below_size bl) : w.heap.size ≤ gb212)); clear HB; have HB := n0_; have BK212 := n1_; have GW212 := n2_; have GE212 := n3_; clear n0_ n1_ n2_ n3_; clear hb hbox hg) | ((with_reducible refine gate_callee (f := 47) rfl ?_); refine goesL_ (some 18) rfl rfl Tryz.func47 (by kernel_rfl) rfl #[.string a0] rfl ml ?_; (with_reducible refine (head_lines.calls k a0 t213 t214 _ ?side1 A6.out).mono ?_); (case side1 => exact Glob.below HG.out bl); rintro e w10 ⟨v215, rfl, ho0, hb⟩; refine ⟨_, rfl, ?_⟩; have n0_ := Aside0.mk (Kd.R_lower ho0 (below_size bl)); have n1_ := Aside0.mk (kb BK212.out hb); have n2_ := Aside0.mk (below_step bl hb); clear BK212; clear HB; have HO216 := n0_; have BK212 := n1_; have HB := n2_; clear n0_ n1_ n2_; (try clear hb); (try clear hb2); (try clear hk); (try clear hi); (try clear ho0); obtain ⟨Ao11, co11, eo11⟩ := Kd.R_slice HO216.out; subst eo11) | ((with_reducible refine gate_callee (f := 48) rfl ?_); refine goesL_ (some 22) rfl rfl Tryz.func48 (by kernel_rfl) rfl #[.slice Ao11 t213.length co11, .string (⟨#[]⟩ : ByteArray)] rfl ml ?_; (with_reducible refine (slices_Index_string_string.calls _ _ t213 (⟨#[]⟩ : ByteArray) t217 _ ?side1 ?side2 A7.out).mono ?_); (case side1 => repeat (first | exact (Kd.R_reads' HO216.out).2.2 | (with_reducible refine Kd.C_alloc ?_ _) | (with_reducible refine Kd.C_drewN ?_ _) | (with_reducible refine Kd.C_drew ?_))); (case side2 => exact (Kd.R_reads' HO216.out).2.1); rintro e w' ⟨rfl, ⟨nd, rfl⟩⟩; refine ⟨_, rfl, ?_⟩; (try (rw [drewN_self w10]; generalize hq_ : World.drewN w10 _ = w10; have n0_ : Aside0 (Kd.R Kd.string 9 w10 w.heap.size (fun _ => True) (.slice Ao11 t213.length co11) t213) := ⟨by rw [← hq_]; exact (kr HO216.out)⟩; have n1_ : Aside0 (w10.heap[gb212]? = some (.cells #[.slice none 0 0, .string (⟨#[]⟩ : ByteArray), .bool false] 24 (0, 0))) := ⟨by rw [← hq_]; exact (bk BK212.out)⟩; have n2_ : Aside0 (Below w.heap.size w w10) := ⟨by rw [← hq_]; exact bl⟩; clear HO216 BK212 HB hq_; have HO216 := n0_; have BK212 := n1_; have HB := n2_; clear n0_ n1_ n2_))) | ((with_reducible refine gate_dst (N := 7) rfl ?_); (try (refine gate_guard (by rfl) ?_; dsimp only)); refine box_event ?hg (N := 7) ?hd (cs := #[.slice none 0 0, .string (⟨#[]⟩ : ByteArray), .bool false]) (t := 24) ?hr ?_; (case hd => rfl); (case hg => rfl); (case hr => first | (go_simp; done) | (go_simp; rfl)); intro gb218 hg w12 hbox hb; have n0_ := Aside0.mk (Kd.R_below (kr HO216.out) hb); have n1_ := Aside0.mk (kb BK212.out hb); have n2_ := Aside0.mk (below_step bl hb); have n3_ := Aside0.mk (hbox); have n4_ := Aside0.mk ((by rw [hg]; exact (below_size bl) : w.heap.size ≤ gb218)); have n5_ := Aside0.mk ((by rw [hg]; exact (below_size bl) : w.heap.size ≤ gb218)); have n6_ := Aside0.mk ((by rw [hg]; exact Nat.ne_of_lt (blk_lt (bk BK212.out)) : gb212 ≠ gb218)); have n7_ := Aside0.mk ((by rw [hg]; exact Nat.ne_of_gt (blk_lt (bk BK212.out)) : gb218 ≠ gb212)); clear HO216; clear BK212; clear HB; have HO216 := n0_; have BK212 := n1_; have HB := n2_; have BK218 := n3_; have GW218 := n4_; have GE218 := n5_; have NB212_218 := n6_; have NB218_212 := n7_; clear n0_ n1_ n2_ n3_ n4_ n5_ n6_ n7_; clear hb hbox hg; have hnb13 := NB218_212.out; have hnc13 := NB212_218.out; have hcz14_0 : w12.cell? ⟨gb218, 0, none⟩ = some (.slice none 0 0) := (blk_cell BK218.out 0).trans rfl; have hcz14_1 : w12.cell? ⟨gb218, 1, none⟩ = some (.string (⟨#[]⟩ : ByteArray)) := (blk_cell BK218.out 1).trans rfl; have hcz14_2 : w12.cell? ⟨gb218, 2, none⟩ = some (.bool false) := (blk_cell BK218.out 2).trans rfl; have hfz14_0 := blk_frozen BK218.out 0; have hfz14_1 := blk_frozen BK218.out 1; have hfz14_2 := blk_frozen BK218.out 2) | ((with_reducible refine gate_store (t := 24) (p := 7) rfl ?_); refine store_event (t := 24) (p := 7) (v := ?vo_w15) (w1 := (((w12.setCell ⟨gb218, 0, none⟩ (.slice none 0 0)).setCell ⟨gb218, 1, none⟩ (.string (⟨#[]⟩ : ByteArray))).setCell ⟨gb218, 2, none⟩ (.bool (decide (t217 < 0))))) ?hg ?ho ?hn ?hr ?_; (case ho => rfl); (case hg => rfl); (case hn => rfl); (case hr => first | (go_simp; done) | (go_simp; rfl)); intro w15 hw; have n0_ : Aside0 (Kd.R Kd.string 9 w15 w.heap.size (fun _ => True) (.slice Ao11 t213.length co11) t213) := ⟨(by rw [hw]; exact (by (with_reducible repeat (first | apply Kd.R_alloc | apply Kd.R_drewN | apply Kd.R_drew)); exact Kd.R_mono (Kd.R_far (p := ⟨gb218, 2, none⟩) (Kd.R_far (p := ⟨gb218, 1, none⟩) (Kd.R_far (p := ⟨gb218, 0, none⟩) (Kd.R_types HO216.out BK218.out (by decide)) (fun _ hk => hk.2) (.slice none 0 0)) (fun _ hk => hk.2) (.string (⟨#[]⟩ : ByteArray))) (fun _ hk => hk.2) (.bool (decide (t217 < 0)))) (fun _ hk => trivial)))⟩; have n1_ : Aside0 (w15.heap[gb212]? = some (.cells #[.slice none 0 0, .string (⟨#[]⟩ : ByteArray), .bool false] 24 (0, 0))) := ⟨(by rw [hw]; exact (bk BK212.out))⟩; have n2_ : Aside0 (w15.heap[gb218]? = some (.cells #[.slice none 0 0, .string (⟨#[]⟩ : ByteArray), .bool (decide (t217 < 0))] 24 (0, 0))) := ⟨(by rw [hw]; exact (by (with_reducible repeat (first | refine blk_drewN ?_ _ | refine blk_drew ?_ | refine blk_alloc ?_ _)); refine blk_put (cs := #[.slice none 0 0, .string (⟨#[]⟩ : ByteArray), .bool false]) ?_ 2 _ rfl; (with_reducible repeat (first | refine blk_drewN ?_ _ | refine blk_drew ?_ | refine blk_alloc ?_ _)); refine blk_put (cs := #[.slice none 0 0, .string (⟨#[]⟩ : ByteArray), .bool false]) ?_ 1 _ rfl; (with_reducible repeat (first | refine blk_drewN ?_ _ | refine blk_drew ?_ | refine blk_alloc ?_ _)); refine blk_put (cs := #[.slice none 0 0, .string (⟨#[]⟩ : ByteArray), .bool false]) ?_ 0 _ rfl; (with_reducible repeat (first | refine blk_drewN ?_ _ | refine blk_drew ?_ | refine blk_alloc ?_ _)); exact BK218.out))⟩; have n3_ : Aside0 (Below w.heap.size w w15) := ⟨(by rw [hw]; exact bl)⟩; clear hw; clear HO216; clear BK212; clear BK218; clear HB; have HO216 := n0_; have BK212 := n1_; have BK218 := n2_; have HB := n3_; clear n0_ n1_ n2_ n3_; have hcz16_0 : w15.cell? ⟨gb218, 0, none⟩ = some (.slice none 0 0) := (blk_cell BK218.out 0).trans rfl; have hcz16_1 : w15.cell? ⟨gb218, 1, none⟩ = some (.string (⟨#[]⟩ : ByteArray)) := (blk_cell BK218.out 1).trans rfl; have hcz16_2 : w15.cell? ⟨gb218, 2, none⟩ = some (.bool (decide (t217 < 0))) := (blk_cell BK218.out 2).trans rfl; have hfz16_0 := blk_frozen BK218.out 0; have hfz16_1 := blk_frozen BK218.out 1; have hfz16_2 := blk_frozen BK218.out 2))
  (try simp only [Act.put, List.setIfInBounds_toArray, List.set_cons_zero, List.set_cons_succ])
  go_cut [4] (fun v4 wc => ∃ (kq : Nat) (x4_7 : List ByteArray) (x219001_7 : ByteArray), Aside0 (head_Parse.j1 kq x4_7 t214 x219001_7 (decide (t217 < 0)) = some (r1, r2, r3, r4)) ∧ Aside0 (kq ≤ k) ∧ Aside0 (Kd.Q Kd.string 9 wc w.heap.size (fun _ => True) v4 x4_7) ∧ Aside0 (wc.heap[gb212]? = some (.cells #[(.slice none 0 0), .string (⟨#[]⟩ : ByteArray), .bool false] 24 (0, 0))) ∧ Aside0 (wc.heap[gb218]? = some (.cells #[(.slice none 0 0), .string x219001_7, .bool (decide (t217 < 0))] 24 (0, 0))) ∧ Aside0 (Below w.heap.size w wc))
  case first =>
   have H := HC8.out
   clear HC8
   by_cases c17 : t217 < 0
   ·rw [if_pos c17] at H
    have c17b0 : decide (t217 < 0) = true := decide_eq_true c17
    clear c17
    (first | rw [c17b0] | (simp only [i64_w, i32_w]; rw [c17b0]) | skip)
    have H' := Aside0.mk H
    clear H
    go_wp2
    go_meet
    case rel => exact ⟨_, (t213), ((⟨#[]⟩ : ByteArray)), H', ⟨by first | omega | exact Nat.le_refl _⟩, ⟨Kd.Q_of_R (kr HO216.out)⟩, ⟨by (with_reducible repeat (first | refine blk_drewN ?_ _ | refine blk_drew ?_ | refine blk_alloc ?_ _)); exact BK212.out⟩, ⟨by (with_reducible repeat (first | refine blk_drewN ?_ _ | refine blk_drew ?_ | refine blk_alloc ?_ _)); exact BK218.out⟩, ⟨by repeat (first | (with_reducible first | exact HB.out | apply below_alloc | apply pw_below_drewN | apply below_drew1 | refine below_set ?_ GE212.out | refine below_set ?_ GE218.out) | exact HB.out)⟩⟩
   ·rw [if_neg c17] at H
    have c17b0 : decide (t217 < 0) = false := decide_eq_false c17
    clear c17
    (first | rw [c17b0] | (simp only [i64_w, i32_w]; rw [c17b0]) | skip)
    obtain ⟨ji18, hji18⟩ : ∃ j_ : Int, (wrap64 (t217 + 1)) = j_ := ⟨_, rfl⟩
    replace H : (if 0 ≤ (ji18) then (if (ji18) ≤ (t213.length : Int) then ((some (t213.drop ((ji18) : Int).toNat : List ByteArray)).bind fun y219 => (head_Parse.l0 k t213 t214 t217 y219 (y219.length : Int) 0 (⟨#[]⟩ : ByteArray) (decide (t217 < 0)))) else (none)) else (none)) = some (r1, r2, r3, r4) := by first | (rw [hji18] at H; exact H) | (simp only [hji18] at H ⊢; exact H)
    have hji18w : (IntKind.i64.wrap (t217 + 1)) = ji18 := (i64_w _).trans hji18
    by_cases c19 : 0 ≤ (ji18)
    ·rw [if_pos c19] at H
     have c19b0 := eq_true c19
     have c19b1 : decide (0 ≤ (ji18)) = true := decide_eq_true c19
     clear c19
     by_cases c20 : (ji18) ≤ (t213.length : Int)
     ·rw [if_pos c20] at H
      have c20b0 := eq_true c20
      have c20b1 : decide ((ji18) ≤ (t213.length : Int)) = true := decide_eq_true c20
      clear c20
      obtain ⟨y219, hy219⟩ : ∃ y_ : List ByteArray, y_ = (t213.drop ((ji18) : Int).toNat) := ⟨_, rfl⟩
      replace H : (head_Parse.l0 k t213 t214 t217 y219 (y219.length : Int) 0 (⟨#[]⟩ : ByteArray) (decide (t217 < 0))) = some (r1, r2, r3, r4) := by first | (rw [hy219]; with_reducible exact H) | (have H2_ := (Option.bind_some _ _).symm.trans H; rw [hy219]; with_reducible exact H2_) | (have H2_ := (Option.bind_some _ _).symm.trans H; with_reducible exact H2_) | with_reducible exact H | (rw [hy219]; exact H) | exact H
      have Ny219 := Aside0.mk hy219
      clear hy219
      have H' := Aside0.mk H
      clear H
      have q21 : ((ji18) : Int) ≤ ((t213.length : Int) : Int) := od
      obtain ⟨i021, hi021, _, hsz21, _⟩ := info_parts info9
      have hroom21 : t213.length ≤ co11 := (Kd.R_reads' HO216.out).2.1
      have hC21 : Kd.F Kd.string _ _ Ao11 t213.length t213 := (Kd.V_at (base := w.heap.size) (Kd.R_V (Kd.R_types (Kd.R_types (HO216.out) BK212.out (by decide)) BK218.out (by decide)))).2.2
      have q021 : (0 : Int) ≤ ((ji18) : Int) := od
      have hcut21 := cut_from (P := Tryz.prog) 84 9 .i64 Tryz.underlying84 hi021 1 hsz21 Ao11 t213.length co11 (ji18) q021 q21
      have hr21 := Kd.F_cut (m := ((ji18) : Int).toNat) (c := co11) hC21 (by omega) hroom21
      obtain ⟨A21, hA21⟩ : ∃ A1, A1 = (if co11 = ((ji18) : Int).toNat then Ao11 else (Ao11 : Option Addr).map (·.add (((ji18) : Int).toNat * 1))) := ⟨_, rfl⟩
      obtain ⟨c21, hc21⟩ : ∃ c1, c1 = co11 - ((ji18) : Int).toNat := ⟨_, rfl⟩
      have hy21 : y219.length = t213.length - ((ji18) : Int).toNat := (by rw [Ny219.out, List.length_drop] <;> omega)
      rw [show (t213).drop ((ji18) : Int).toNat = y219 from Ny219.out.symm] at hr21
      replace hr21 : Kd.F Kd.string _ _ A21 y219.length y219 := (by rw [hA21]; exact hr21)
      rw [← hy21, ← hA21, ← hc21] at hcut21
      have HO223 := Aside0.mk (show Kd.V Kd.string 9 _ w.heap.size _ (.slice A21 y219.length c21) y219 from Kd.V_mk (by rw [hy21, hc21]; exact Nat.sub_le_sub_right hroom21 _) hr21)
      have HC223 := Aside0.mk (show y219.length ≤ c21 from by rw [hy21, hc21]; exact Nat.sub_le_sub_right hroom21 _)
      clear hr21 hC21 hroom21 hi021 hsz21 hc21
      have KY21 := Aside0.mk hy21
      have KA21 := Aside0.mk hA21
      clear hy21 hA21
      replace q21 := eq_true q21
      go_wp2
      go_loopg [34] k (fun kq v34 w' => ∃ (x34_1 : Int) (x219001_1 : ByteArray), v34 = .int .i64 x34_1 ∧ Aside0 (head_Parse.l0 kq t213 t214 t217 y219 (y219.length : Int) x34_1 x219001_1 (decide (t217 < 0)) = some (r1, r2, r3, r4)) ∧ Aside0 (kq ≤ k) ∧ Aside0 (Kd.Q Kd.string 9 w' w.heap.size (fun _ => True) (.slice Ao11 t213.length co11) t213) ∧ Aside0 (Kd.V Kd.string 9 w' w.heap.size (fun k_ => k_ ≠ gb212 ∧ k_ ≠ gb218) (.slice A21 y219.length c21) y219) ∧ Aside0 (w'.heap[gb212]? = some (.cells #[(.slice none 0 0), .string (⟨#[]⟩ : ByteArray), .bool false] 24 (0, 0))) ∧ Aside0 (w'.heap[gb218]? = some (.cells #[(.slice none 0 0), .string x219001_1, .bool (decide (t217 < 0))] 24 (0, 0))) ∧ Aside0 (Below w.heap.size w w'))
      case atStart => exact ⟨(0), ((⟨#[]⟩ : ByteArray)), (by first | rfl | (simp; done) | (simp [*]; done)), H', ⟨Nat.le_refl _⟩, ⟨Kd.Q_of_R (kr HO216.out)⟩, ⟨by (with_reducible repeat (first | apply Kd.V_alloc | apply Kd.V_drewN | apply Kd.V_drew)); exact Kd.V_mono HO223.out (fun _ hk => ⟨hk.1.2, hk.2⟩)⟩, ⟨by (with_reducible repeat (first | refine blk_drewN ?_ _ | refine blk_drew ?_ | refine blk_alloc ?_ _)); exact BK212.out⟩, ⟨by (with_reducible repeat (first | refine blk_drewN ?_ _ | refine blk_drew ?_ | refine blk_alloc ?_ _)); exact BK218.out⟩, ⟨by repeat (first | (with_reducible first | exact HB.out | apply below_alloc | apply pw_below_drewN | apply below_drew1 | refine below_set ?_ GE212.out | refine below_set ?_ GE218.out) | exact HB.out)⟩⟩
      case round =>
       clear H'
       try clear c1
       try clear c2
       try clear c2b0
       try clear c2b1
       try clear p2
       try clear q2
       try clear c4
       try clear p6
       try clear c13
       try clear c17
       try clear c17b0
       try clear c19
       try clear c19b0
       try clear c19b1
       try clear c20
       try clear c20b0
       try clear c20b1
       try clear c21
       try clear q21
       try clear hcz14_0
       try clear hcz14_1
       try clear hcz14_2
       try clear hcz16_0
       try clear hcz16_1
       try clear hcz16_2
       try clear hcz4_0
       try clear hcz4_1
       try clear hcz4_2
       try clear hfz14_0
       try clear hfz14_1
       try clear hfz14_2
       try clear hfz16_0
       try clear hfz16_1
       try clear hfz16_2
       try clear hfz4_0
       try clear hfz4_1
       try clear hfz4_2
       try clear q021
       try clear q21
       obtain ⟨x34_1, x219001_1, rfl, HA, HK1, HO_4, HO_32, BK212, BK218, HB⟩ := hrel
       cases gk with
       | zero => exact absurd HA.out (by simp [head_Parse.l0])
       | succ k1 =>
        have H := HA.out
        clear HA
        simp only [head_Parse.l0] at H
        by_cases c22 : x34_1 < (y219.length : Int)
        ·rw [if_pos c22] at H
         have c22b0 : decide (x34_1 < (y219.length : Int)) = true := decide_eq_true c22
         clear c22
         by_cases c23 : 0 ≤ x34_1
         ·rw [if_pos c23] at H
          have c23b0 : decide (0 ≤ x34_1) = true := decide_eq_true c23
          clear c23
          by_cases c24 : x34_1 < (y219.length : Int)
          ·rw [if_pos c24] at H
           have c24b0 : decide (x34_1 < (y219.length : Int)) = true := decide_eq_true c24
           clear c24
           by_cases c25 : (rdOf ByteArray.empty y219 x34_1).size + 2 ≤ 9223372036854775807
           ·rw [if_pos c25] at H
            have c25b0 := eq_true c25
            have c25b1 : decide ((rdOf ByteArray.empty y219 x34_1).size + 2 ≤ 9223372036854775807) = true := decide_eq_true c25
            try have c25b2 : (9223372036854775807 < (rdOf ByteArray.empty y219 x34_1).size + 2) = False := eq_false (Nat.not_lt.2 c25)
            by_cases c26 : x219001_1.size + ((rdOf ByteArray.empty y219 x34_1) ++ (⟨#[13, 10]⟩ : ByteArray)).size ≤ 9223372036854775807
            ·rw [if_pos c26] at H
             have c26b0 := eq_true c26
             have c26b1 : decide (x219001_1.size + ((rdOf ByteArray.empty y219 x34_1) ++ (⟨#[13, 10]⟩ : ByteArray)).size ≤ 9223372036854775807) = true := decide_eq_true c26
             try have c26b2 : (9223372036854775807 < x219001_1.size + ((rdOf ByteArray.empty y219 x34_1) ++ (⟨#[13, 10]⟩ : ByteArray)).size) = False := eq_false (Nat.not_lt.2 c26)
             try (have c26b2y := c26b2; rw [ByteArray.size_append] at c26b2y)
             try have c26b2z : (9223372036854775807 < x219001_1.size + ((rdOf ByteArray.empty y219 x34_1).size + 2)) = False := eq_false (fun h_ => by have g_ := c26; simp only [ByteArray.size_append, show (⟨#[13, 10]⟩ : ByteArray).size = 2 from rfl] at g_; omega)
             have H' := Aside0.mk H
             clear H
             have p224 : 0 ≤ (x34_1 : Int) := od
             have q224 : x34_1 < (y219.length : Int) := od
             obtain ⟨ad224, e224, hx224_0⟩ := Kd.at_string (Kd.V_reads' HO_32.out).2.2 x34_1 p224 q224
             cases e224
             replace p224 := eq_true p224
             replace q224 := eq_true q224
             have hnb27 := NB218_212.out
             have hnc27 := NB212_218.out
             have hcz28_0 : wr.cell? ⟨gb218, 0, none⟩ = some (.slice none 0 0) := (blk_cell BK218.out 0).trans rfl
             have hcz28_1 : wr.cell? ⟨gb218, 1, none⟩ = some (.string x219001_1) := (blk_cell BK218.out 1).trans rfl
             have hcz28_2 : wr.cell? ⟨gb218, 2, none⟩ = some (.bool (decide (t217 < 0))) := (blk_cell BK218.out 2).trans rfl
             have hfz28_0 := blk_frozen BK218.out 0
             have hfz28_1 := blk_frozen BK218.out 1
             have hfz28_2 := blk_frozen BK218.out 2
             go_wp2_with (first | ((with_reducible refine gate_store (t := 9) (p := 43) rfl ?_); refine store_event (t := 9) (p := 43) (v := ?vo_w29) (w1 := (wr.setCell ⟨gb218, 1, none⟩ (.string (x219001_1 ++ ((rdOf ByteArray.empty y219 x34_1) ++ (⟨#[13, 10]⟩ : ByteArray)))))) ?hg ?ho ?hn ?hr ?_; (case ho => rfl); (case hg => rfl); (case hn => rfl); (case hr => first | (go_simp; done) | (go_simp; rfl)); intro w29 hw; have n0_ : Aside0 (Kd.Q Kd.string 9 w29 w.heap.size (fun _ => True) (.slice Ao11 t213.length co11) t213) := ⟨(by rw [hw]; exact (by (with_reducible repeat (first | apply Kd.Q_alloc | apply Kd.Q_drewN | apply Kd.Q_drew)); exact Kd.Q_mono (Kd.Q_far (p := ⟨gb218, 1, none⟩) (Kd.Q_types HO_4.out BK218.out (by decide)) (fun _ hk => hk.2) (.string (x219001_1 ++ ((rdOf ByteArray.empty y219 x34_1) ++ (⟨#[13, 10]⟩ : ByteArray))))) (fun _ hk => trivial)))⟩; have n1_ : Aside0 (Kd.V Kd.string 9 w29 w.heap.size (fun k_ => k_ ≠ gb212 ∧ k_ ≠ gb218) (.slice (some ad224) y219.length c21) y219) := ⟨(by rw [hw]; exact (by (with_reducible repeat (first | apply Kd.V_alloc | apply Kd.V_drewN | apply Kd.V_drew)); exact Kd.V_mono (Kd.V_far (p := ⟨gb218, 1, none⟩) (Kd.V_mono HO_32.out (fun k_ hk => (⟨hk, hk.2⟩ : _ ∧ k_ ≠ gb218))) (fun _ hk => hk.2) (.string (x219001_1 ++ ((rdOf ByteArray.empty y219 x34_1) ++ (⟨#[13, 10]⟩ : ByteArray))))) (fun _ hk => ⟨hk.1.1, hk.1.2⟩)))⟩; have n2_ : Aside0 (w29.heap[gb212]? = some (.cells #[.slice none 0 0, .string (⟨#[]⟩ : ByteArray), .bool false] 24 (0, 0))) := ⟨(by rw [hw]; exact (bk BK212.out))⟩; have n3_ : Aside0 (w29.heap[gb218]? = some (.cells #[.slice none 0 0, .string (x219001_1 ++ ((rdOf ByteArray.empty y219 x34_1) ++ (⟨#[13, 10]⟩ : ByteArray))), .bool (decide (t217 < 0))] 24 (0, 0))) := ⟨(by rw [hw]; exact (by (with_reducible repeat (first | refine blk_drewN ?_ _ | refine blk_drew ?_ | refine blk_alloc ?_ _)); refine blk_put (cs := #[.slice none 0 0, .string x219001_1, .bool (decide (t217 < 0))]) ?_ 1 _ rfl; (with_reducible repeat (first | refine blk_drewN ?_ _ | refine blk_drew ?_ | refine blk_alloc ?_ _)); exact BK218.out))⟩; have n4_ : Aside0 (Below w.heap.size w w29) := ⟨(by rw [hw]; exact bl)⟩; clear hw; clear HO_4; clear HO_32; clear BK212; clear BK218; clear HB; have HO_4 := n0_; have HO_32 := n1_; have BK212 := n2_; have BK218 := n3_; have HB := n4_; clear n0_ n1_ n2_ n3_ n4_))
             go_roundg k1
             case measure => have := HK1.out; omega
             case rel => exact ⟨(wrap64 (x34_1 + 1)), (x219001_1 ++ ((rdOf ByteArray.empty y219 x34_1) ++ (⟨#[13, 10]⟩ : ByteArray))), (by first | rfl | (simp; done) | (simp [*]; done)), H', ⟨by have := HK1.out; omega⟩, ⟨by (with_reducible repeat (first | apply Kd.Q_alloc | apply Kd.Q_drewN | apply Kd.Q_drew)); exact HO_4.out⟩, ⟨by (with_reducible repeat (first | apply Kd.V_alloc | apply Kd.V_drewN | apply Kd.V_drew)); exact HO_32.out⟩, ⟨by (with_reducible repeat (first | refine blk_drewN ?_ _ | refine blk_drew ?_ | refine blk_alloc ?_ _)); exact BK212.out⟩, ⟨by (with_reducible repeat (first | refine blk_drewN ?_ _ | refine blk_drew ?_ | refine blk_alloc ?_ _)); exact BK218.out⟩, ⟨by repeat (first | (with_reducible first | exact HB.out | apply below_alloc | apply pw_below_drewN | apply below_drew1 | refine below_set ?_ GE212.out | refine below_set ?_ GE218.out) | exact HB.out)⟩⟩
            ·rw [if_neg c26] at H
             exact absurd H (by simp)
           ·rw [if_neg c25] at H
            exact absurd H (by simp)
          ·rw [if_neg c24] at H
           exact absurd H (by simp)
         ·rw [if_neg c23] at H
          exact absurd H (by simp)
        ·rw [if_neg c22] at H
         have c22b0 : decide (x34_1 < (y219.length : Int)) = false := decide_eq_false c22
         clear c22
         by_cases c30 : 0 ≤ t217
         ·rw [if_pos c30] at H
          have c30b0 := eq_true c30
          have c30b1 : decide (0 ≤ t217) = true := decide_eq_true c30
          clear c30
          by_cases c31 : t217 ≤ (t213.length : Int)
          ·rw [if_pos c31] at H
           have c31b0 := eq_true c31
           have c31b1 : decide (t217 ≤ (t213.length : Int)) = true := decide_eq_true c31
           clear c31
           obtain ⟨y225, hy225⟩ : ∃ y_ : List ByteArray, y_ = (t213.take (t217 : Int).toNat) := ⟨_, rfl⟩
           replace H : (head_Parse.j1 k1 y225 t214 x219001_1 (decide (t217 < 0))) = some (r1, r2, r3, r4) := by first | (rw [hy225]; with_reducible exact H) | (have H2_ := (Option.bind_some _ _).symm.trans H; rw [hy225]; with_reducible exact H2_) | (have H2_ := (Option.bind_some _ _).symm.trans H; with_reducible exact H2_) | with_reducible exact H | (rw [hy225]; exact H) | exact H
           have Ny225 := Aside0.mk hy225
           clear hy225
           have H' := Aside0.mk H
           clear H
           have q32 : (t217 : Int) ≤ ((t213.length : Int) : Int) := od
           obtain ⟨i032, hi032, _, hsz32, _⟩ := info_parts info9
           have hcut32 := cut_to (P := Tryz.prog) 84 9 .i64 Tryz.underlying84 hi032 Ao11 t213.length co11 t217 (od) q32 (Kd.Q_reads' HO_4.out).2.1
           have hr32 := Kd.Q_take (m := (t217 : Int).toNat) HO_4.out (by omega)
           have hy32 : y225.length = (t217 : Int).toNat := (by rw [Ny225.out, List.length_take]; omega)
           rw [← Ny225.out] at hr32
           rw [← hy32] at hr32 hcut32
           clear hy32 hi032 hsz32 HO_4
           have HO227 := Aside0.mk hr32
           clear hr32
           replace q32 := eq_true q32
           go_wp2
           go_meet
           case rel => exact ⟨_, (y225), (x219001_1), H', ⟨by have := HK1.out; first | omega | exact Nat.le_refl _⟩, ⟨by (with_reducible repeat (first | apply Kd.Q_alloc | apply Kd.Q_drewN | apply Kd.Q_drew)); exact HO227.out⟩, ⟨by (with_reducible repeat (first | refine blk_drewN ?_ _ | refine blk_drew ?_ | refine blk_alloc ?_ _)); exact BK212.out⟩, ⟨by (with_reducible repeat (first | refine blk_drewN ?_ _ | refine blk_drew ?_ | refine blk_alloc ?_ _)); exact BK218.out⟩, ⟨by repeat (first | (with_reducible first | exact HB.out | apply below_alloc | apply pw_below_drewN | apply below_drew1 | refine below_set ?_ GE212.out | refine below_set ?_ GE218.out) | exact HB.out)⟩⟩
          ·rw [if_neg c31] at H
           exact absurd H (by simp)
         ·rw [if_neg c30] at H
          exact absurd H (by simp)
     ·rw [if_neg c20] at H
      exact absurd H (by simp)
    ·rw [if_neg c19] at H
     exact absurd H (by simp)
  case rest =>
   clear HC8
   try clear c1
   try clear c2
   try clear c2b0
   try clear c2b1
   try clear p2
   try clear q2
   try clear hx2
   try clear c3
   try clear q3
   try clear c4
   try clear p6
   try clear c13
   try clear c17
   try clear c17b0
   try clear c19
   try clear c19b0
   try clear c19b1
   try clear c20
   try clear c20b0
   try clear c20b1
   try clear c21
   try clear q21
   try clear c22
   try clear c22b0
   try clear p22
   try clear q22
   try clear hx22
   try clear c23
   try clear c23b0
   try clear c24
   try clear c24b0
   try clear c25
   try clear c25b0
   try clear c25b1
   try clear c25b2
   try clear c26
   try clear c26b0
   try clear c26b1
   try clear c26b2
   try clear c27
   try clear c30
   try clear c30b0
   try clear c30b1
   try clear c31
   try clear c31b0
   try clear c31b1
   try clear q32
   try clear hcz14_0
   try clear hcz14_1
   try clear hcz14_2
   try clear hcz16_0
   try clear hcz16_1
   try clear hcz16_2
   try clear hcz28_0
   try clear hcz28_1
   try clear hcz28_2
   try clear hcz4_0
   try clear hcz4_1
   try clear hcz4_2
   try clear hfz14_0
   try clear hfz14_1
   try clear hfz14_2
   try clear hfz16_0
   try clear hfz16_1
   try clear hfz16_2
   try clear hfz28_0
   try clear hfz28_1
   try clear hfz28_2
   try clear hfz4_0
   try clear hfz4_1
   try clear hfz4_2
   try clear hx224_0
   try clear p2
   try clear p224
   try clear p6
   try clear q021
   try clear q2
   try clear q21
   try clear q224
   try clear q32
   obtain ⟨kq, x4_7, x219001_7, HA, HJ7, HO_4, BK212, BK218, HB⟩ := hcut
   cases kq with
   | zero => exact absurd HA.out (by simp [head_Parse.j1])
   | succ kj7 =>
    have H := HA.out
    clear HA
    simp only [head_Parse.j1] at H
    have H' := Aside0.mk H
    clear H
    go_wp2
    go_loopg [4, 5] kj7 (fun kq v4 v5 w' => ∃ (x4_2 : List ByteArray) (x5_2 : Bool) (x219000_2 : List (S72)) (u219000 : Value), v5 = .bool x5_2 ∧ Aside0 (head_Parse.l1 kq x4_2 x5_2 x219000_2 x219001_7 (decide (t217 < 0)) = some (r1, r2, r3, r4)) ∧ Aside0 (kq ≤ kj7) ∧ Aside0 (Kd.Q Kd.string 9 w' w.heap.size (fun _ => True) v4 x4_2) ∧ Aside0 (Kd.R k72 72 w' w.heap.size (fun _ => True) u219000 x219000_2) ∧ Aside0 (w'.heap[gb212]? = some (.cells #[(.slice none 0 0), .string (⟨#[]⟩ : ByteArray), .bool false] 24 (0, 0))) ∧ Aside0 (w'.heap[gb218]? = some (.cells #[u219000, .string x219001_7, .bool (decide (t217 < 0))] 24 (0, 0))) ∧ Aside0 (Below w.heap.size w w'))
    case atStart => exact ⟨(x4_7), (t214), (([] : List (S72))), (.slice none 0 0), (by first | rfl | (simp; done) | (simp [*]; done)), H', ⟨Nat.le_refl _⟩, ⟨by (with_reducible repeat (first | apply Kd.Q_alloc | apply Kd.Q_drewN | apply Kd.Q_drew)); exact HO_4.out⟩, ⟨by first | exact Kd.R_nil _ _ _ _ _ | exact Kd.N_nil _ _ _ _ _ | exact Kd.V_nil _ _ _ _ _ | exact Kd.Q_nil _ _ _ _ _ | exact Kd.S_nil _ _ _ _ _⟩, ⟨by (with_reducible repeat (first | refine blk_drewN ?_ _ | refine blk_drew ?_ | refine blk_alloc ?_ _)); exact BK212.out⟩, ⟨by (with_reducible repeat (first | refine blk_drewN ?_ _ | refine blk_drew ?_ | refine blk_alloc ?_ _)); exact BK218.out⟩, ⟨by repeat (first | (with_reducible first | exact HB.out | apply below_alloc | apply pw_below_drewN | apply below_drew1 | refine below_set ?_ GE212.out | refine below_set ?_ GE218.out) | exact HB.out)⟩⟩
    case round =>
     clear H'
     try clear c1
     try clear c2
     try clear c2b0
     try clear c2b1
     try clear p2
     try clear q2
     try clear hx2
     try clear c3
     try clear q3
     try clear c4
     try clear p6
     try clear c13
     try clear c17
     try clear c17b0
     try clear c19
     try clear c19b0
     try clear c19b1
     try clear c20
     try clear c20b0
     try clear c20b1
     try clear c21
     try clear q21
     try clear c22
     try clear c22b0
     try clear p22
     try clear q22
     try clear hx22
     try clear c23
     try clear c23b0
     try clear c24
     try clear c24b0
     try clear c25
     try clear c25b0
     try clear c25b1
     try clear c25b2
     try clear c26
     try clear c26b0
     try clear c26b1
     try clear c26b2
     try clear c27
     try clear c30
     try clear c30b0
     try clear c30b1
     try clear c31
     try clear c31b0
     try clear c31b1
     try clear q32
     try clear hcz14_0
     try clear hcz14_1
     try clear hcz14_2
     try clear hcz16_0
     try clear hcz16_1
     try clear hcz16_2
     try clear hcz28_0
     try clear hcz28_1
     try clear hcz28_2
     try clear hcz4_0
     try clear hcz4_1
     try clear hcz4_2
     try clear hfz14_0
     try clear hfz14_1
     try clear hfz14_2
     try clear hfz16_0
     try clear hfz16_1
     try clear hfz16_2
     try clear hfz28_0
     try clear hfz28_1
     try clear hfz28_2
     try clear hfz4_0
     try clear hfz4_1
     try clear hfz4_2
     try clear hx224_0
     try clear p2
     try clear p22
     try clear p224
     try clear p6
     try clear q021
     try clear q2
     try clear q21
     try clear q22
     try clear q224
     try clear q3
     try clear q32
     obtain ⟨x4_2, x5_2, x219000_2, u219000, rfl, HA, HK2, HO_4, HO_219000, BK212, BK218, HB⟩ := hrel
     cases gk with
     | zero => exact absurd HA.out (by simp [head_Parse.l1])
     | succ k2 =>
      have H := HA.out
      clear HA
      simp only [head_Parse.l1] at H
      have HC33 := Aside0.mk H
      clear H
      go_upto_region 13 with (fail)
      go_cut [53] (fun v53 wc => ∃ (kq : Nat) (x53_32 : Bool), v53 = .bool x53_32 ∧ Aside0 (head_Parse.j3 kq x4_2 x5_2 x53_32 x219000_2 x219001_7 (decide (t217 < 0)) = some (r1, r2, r3, r4)) ∧ Aside0 (kq ≤ k2) ∧ Aside0 (Kd.Q Kd.string 9 wc w.heap.size (fun _ => True) u4 x4_2) ∧ Aside0 (Kd.R k72 72 wc w.heap.size (fun _ => True) u219000 x219000_2) ∧ Aside0 (wc.heap[gb212]? = some (.cells #[(.slice none 0 0), .string (⟨#[]⟩ : ByteArray), .bool false] 24 (0, 0))) ∧ Aside0 (wc.heap[gb218]? = some (.cells #[u219000, .string x219001_7, .bool (decide (t217 < 0))] 24 (0, 0))) ∧ Aside0 (Below w.heap.size w wc))
      case first =>
       have H := HC33.out
       clear HC33
       by_cases c34 : x5_2 = true
       ·subst c34
        have H1 : (head_Parse.j3 k2 x4_2 true (decide ((x4_2.length : Int) > 0)) x219000_2 x219001_7 (decide (t217 < 0))) = some (r1, r2, r3, r4) := by rw [if_pos rfl] at H; exact H
        clear H
        have H := H1
        clear H1
        have H' := Aside0.mk H
        clear H
        obtain ⟨Ao35, co35, eo35, _⟩ := Kd.Q_slice HO_4.out
        subst eo35
        go_wp2
        go_meet
        case rel => exact ⟨_, (decide ((x4_2.length : Int) > 0)), (by first | rfl | (simp; done) | (simp [*]; done)), H', ⟨by have := HJ7.out; have := HK2.out; first | omega | exact Nat.le_refl _⟩, ⟨by (with_reducible repeat (first | apply Kd.Q_alloc | apply Kd.Q_drewN | apply Kd.Q_drew)); exact HO_4.out⟩, ⟨by (with_reducible repeat (first | apply Kd.R_alloc | apply Kd.R_drewN | apply Kd.R_drew)); exact HO_219000.out⟩, ⟨by (with_reducible repeat (first | refine blk_drewN ?_ _ | refine blk_drew ?_ | refine blk_alloc ?_ _)); exact BK212.out⟩, ⟨by (with_reducible repeat (first | refine blk_drewN ?_ _ | refine blk_drew ?_ | refine blk_alloc ?_ _)); exact BK218.out⟩, ⟨by repeat (first | (with_reducible first | exact HB.out | apply below_alloc | apply pw_below_drewN | apply below_drew1 | refine below_set ?_ GE212.out | refine below_set ?_ GE218.out) | exact HB.out)⟩⟩
       ·replace c34 := Bool.eq_false_iff.mpr c34
        subst c34
        have H1 : (head_Parse.j3 k2 x4_2 false false x219000_2 x219001_7 (decide (t217 < 0))) = some (r1, r2, r3, r4) := by rw [if_neg (show ¬ (false = true) by decide)] at H; exact H
        clear H
        have H := H1
        clear H1
        have H' := Aside0.mk H
        clear H
        go_wp2
        go_meet
        case rel => exact ⟨_, (false), (by first | rfl | (simp; done) | (simp [*]; done)), H', ⟨by have := HJ7.out; have := HK2.out; first | omega | exact Nat.le_refl _⟩, ⟨by (with_reducible repeat (first | apply Kd.Q_alloc | apply Kd.Q_drewN | apply Kd.Q_drew)); exact HO_4.out⟩, ⟨by (with_reducible repeat (first | apply Kd.R_alloc | apply Kd.R_drewN | apply Kd.R_drew)); exact HO_219000.out⟩, ⟨by (with_reducible repeat (first | refine blk_drewN ?_ _ | refine blk_drew ?_ | refine blk_alloc ?_ _)); exact BK212.out⟩, ⟨by (with_reducible repeat (first | refine blk_drewN ?_ _ | refine blk_drew ?_ | refine blk_alloc ?_ _)); exact BK218.out⟩, ⟨by repeat (first | (with_reducible first | exact HB.out | apply below_alloc | apply pw_below_drewN | apply below_drew1 | refine below_set ?_ GE212.out | refine below_set ?_ GE218.out) | exact HB.out)⟩⟩
      case rest =>
       clear HC33
       try clear c1
       try clear c2
       try clear c2b0
       try clear c2b1
       try clear p2
       try clear q2
       try clear hx2
       try clear c3
       try clear q3
       try clear c4
       try clear p6
       try clear c13
       try clear c17
       try clear c17b0
       try clear c19
       try clear c19b0
       try clear c19b1
       try clear c20
       try clear c20b0
       try clear c20b1
       try clear c21
       try clear q21
       try clear c22
       try clear c22b0
       try clear p22
       try clear q22
       try clear hx22
       try clear c23
       try clear c23b0
       try clear c24
       try clear c24b0
       try clear c25
       try clear c25b0
       try clear c25b1
       try clear c25b2
       try clear c26
       try clear c26b0
       try clear c26b1
       try clear c26b2
       try clear c27
       try clear c30
       try clear c30b0
       try clear c30b1
       try clear c31
       try clear c31b0
       try clear c31b1
       try clear q32
       try clear c34
       try clear hcz14_0
       try clear hcz14_1
       try clear hcz14_2
       try clear hcz16_0
       try clear hcz16_1
       try clear hcz16_2
       try clear hcz28_0
       try clear hcz28_1
       try clear hcz28_2
       try clear hcz4_0
       try clear hcz4_1
       try clear hcz4_2
       try clear hfz14_0
       try clear hfz14_1
       try clear hfz14_2
       try clear hfz16_0
       try clear hfz16_1
       try clear hfz16_2
       try clear hfz28_0
       try clear hfz28_1
       try clear hfz28_2
       try clear hfz4_0
       try clear hfz4_1
       try clear hfz4_2
       try clear hx224_0
       try clear p2
       try clear p22
       try clear p224
       try clear p6
       try clear q021
       try clear q2
       try clear q21
       try clear q22
       try clear q224
       try clear q3
       try clear q32
       obtain ⟨kq, x53_32, rfl, HA, HJ32, HO_4, HO_219000, BK212, BK218, HB⟩ := hcut
       cases kq with
       | zero => exact absurd HA.out (by simp [head_Parse.j3])
       | succ kj32 =>
        have H := HA.out
        clear HA
        simp only [head_Parse.j3] at H
        by_cases c36 : x53_32 = true
        ·subst c36
         have H1 : (head_Parse.l2 kj32 x4_2 1 x219000_2 x219001_7 (decide (t217 < 0))) = some (r1, r2, r3, r4) := by rw [if_pos rfl] at H; exact H
         clear H
         have H := H1
         clear H1
         have H' := Aside0.mk H
         clear H
         go_wp2
         go_loopg [10] kj32 (fun kq v10 w' => ∃ (x10_4 : Int), v10 = .int .i64 x10_4 ∧ Aside0 (head_Parse.l2 kq x4_2 x10_4 x219000_2 x219001_7 (decide (t217 < 0)) = some (r1, r2, r3, r4)) ∧ Aside0 (kq ≤ kj32) ∧ Aside0 (Kd.Q Kd.string 9 w' w.heap.size (fun _ => True) u4 x4_2) ∧ Aside0 (Kd.R k72 72 w' w.heap.size (fun _ => True) u219000 x219000_2) ∧ Aside0 (w'.heap[gb212]? = some (.cells #[(.slice none 0 0), .string (⟨#[]⟩ : ByteArray), .bool false] 24 (0, 0))) ∧ Aside0 (w'.heap[gb218]? = some (.cells #[u219000, .string x219001_7, .bool (decide (t217 < 0))] 24 (0, 0))) ∧ Aside0 (Below w.heap.size w w'))
         case atStart => exact ⟨(1), (by first | rfl | (simp; done) | (simp [*]; done)), H', ⟨Nat.le_refl _⟩, ⟨by (with_reducible repeat (first | apply Kd.Q_alloc | apply Kd.Q_drewN | apply Kd.Q_drew)); exact HO_4.out⟩, ⟨by (with_reducible repeat (first | apply Kd.R_alloc | apply Kd.R_drewN | apply Kd.R_drew)); exact HO_219000.out⟩, ⟨by (with_reducible repeat (first | refine blk_drewN ?_ _ | refine blk_drew ?_ | refine blk_alloc ?_ _)); exact BK212.out⟩, ⟨by (with_reducible repeat (first | refine blk_drewN ?_ _ | refine blk_drew ?_ | refine blk_alloc ?_ _)); exact BK218.out⟩, ⟨by repeat (first | (with_reducible first | exact HB.out | apply below_alloc | apply pw_below_drewN | apply below_drew1 | refine below_set ?_ GE212.out | refine below_set ?_ GE218.out) | exact HB.out)⟩⟩
         case round =>
          clear H'
          try clear c1
          try clear c2
          try clear c2b0
          try clear c2b1
          try clear p2
          try clear q2
          try clear hx2
          try clear c3
          try clear q3
          try clear c4
          try clear p6
          try clear c13
          try clear c17
          try clear c17b0
          try clear c19
          try clear c19b0
          try clear c19b1
          try clear c20
          try clear c20b0
          try clear c20b1
          try clear c21
          try clear q21
          try clear c22
          try clear c22b0
          try clear p22
          try clear q22
          try clear hx22
          try clear c23
          try clear c23b0
          try clear c24
          try clear c24b0
          try clear c25
          try clear c25b0
          try clear c25b1
          try clear c25b2
          try clear c26
          try clear c26b0
          try clear c26b1
          try clear c26b2
          try clear c27
          try clear c30
          try clear c30b0
          try clear c30b1
          try clear c31
          try clear c31b0
          try clear c31b1
          try clear q32
          try clear c34
          try clear c36
          try clear hcz14_0
          try clear hcz14_1
          try clear hcz14_2
          try clear hcz16_0
          try clear hcz16_1
          try clear hcz16_2
          try clear hcz28_0
          try clear hcz28_1
          try clear hcz28_2
          try clear hcz4_0
          try clear hcz4_1
          try clear hcz4_2
          try clear hfz14_0
          try clear hfz14_1
          try clear hfz14_2
          try clear hfz16_0
          try clear hfz16_1
          try clear hfz16_2
          try clear hfz28_0
          try clear hfz28_1
          try clear hfz28_2
          try clear hfz4_0
          try clear hfz4_1
          try clear hfz4_2
          try clear hx224_0
          try clear p2
          try clear p22
          try clear p224
          try clear p6
          try clear q021
          try clear q2
          try clear q21
          try clear q22
          try clear q224
          try clear q3
          try clear q32
          obtain ⟨x10_4, rfl, HA, HK4, HO_4, HO_219000, BK212, BK218, HB⟩ := hrel
          cases gk with
          | zero => exact absurd HA.out (by simp [head_Parse.l2])
          | succ k4 =>
           have H := HA.out
           clear HA
           simp only [head_Parse.l2] at H
           by_cases c37 : x10_4 < (x4_2.length : Int)
           ·rw [if_pos c37] at H
            have c37b0 : decide (x10_4 < (x4_2.length : Int)) = true := decide_eq_true c37
            clear c37
            by_cases c38 : 0 ≤ x10_4
            ·rw [if_pos c38] at H
             have c38b0 : decide (0 ≤ x10_4) = true := decide_eq_true c38
             clear c38
             replace H := Option.bind_eq_some_iff.mp H
             obtain ⟨t229, A390, H⟩ := H
             replace H : (if t229 = true then (head_Parse.l2 k4 x4_2 (wrap64 (x10_4 + 1)) x219000_2 x219001_7 (decide (t217 < 0))) else (if x10_4 ≤ (x4_2.length : Int) then ((head_field.f k4 (x4_2.take (x10_4 : Int).toNat)).bind fun bt235 => (if bt235.2.2.2 = true then (if x219000_2.length < 2932031007402 then (head_Parse.l1 k4 (x4_2.drop (x10_4 : Int).toNat) bt235.2.2.2 (x219000_2 ++ [(⟨bt235.1, bt235.2.1, bt235.2.2.1⟩ : S72)]) x219001_7 (decide (t217 < 0))) else (none)) else (head_Parse.l1 k4 (x4_2.drop (x10_4 : Int).toNat) bt235.2.2.2 x219000_2 x219001_7 (decide (t217 < 0))))) else (none))) = some (r1, r2, r3, r4) := H
             have A39 := Aside0.mk A390
             clear A390
             by_cases c40 : t229 = true
             ·subst c40
              have H1 : (head_Parse.l2 k4 x4_2 (wrap64 (x10_4 + 1)) x219000_2 x219001_7 (decide (t217 < 0))) = some (r1, r2, r3, r4) := by rw [if_pos rfl] at H; exact H
              clear H
              have H := H1
              clear H1
              have H' := Aside0.mk H
              clear H
              obtain ⟨Ao41, co41, eo41, _⟩ := Kd.Q_slice HO_4.out
              subst eo41
              have p228 : 0 ≤ (x10_4 : Int) := od
              have q228 : x10_4 < (x4_2.length : Int) := od
              obtain ⟨ad228, e228, hx228_0⟩ := Kd.at_string (Kd.Q_reads' HO_4.out).2.2 x10_4 p228 q228
              cases e228
              replace p228 := eq_true p228
              replace q228 := eq_true q228
              go_wp2_with (first | (go_at_call 49; (with_reducible refine (head_white.calls (rdOf ByteArray.empty x4_2 x10_4) true _ A39.out).mono ?_); rintro e w' ⟨rfl, ⟨nd, rfl⟩⟩))
              go_roundg k4
              case measure => have := HJ7.out; have := HK2.out; have := HJ32.out; have := HK4.out; omega
              case rel => exact ⟨(wrap64 (x10_4 + 1)), (by first | rfl | (simp; done) | (simp [*]; done)), H', ⟨by have := HJ7.out; have := HK2.out; have := HJ32.out; have := HK4.out; omega⟩, ⟨by (with_reducible repeat (first | apply Kd.Q_alloc | apply Kd.Q_drewN | apply Kd.Q_drew)); exact HO_4.out⟩, ⟨by (with_reducible repeat (first | apply Kd.R_alloc | apply Kd.R_drewN | apply Kd.R_drew)); exact HO_219000.out⟩, ⟨by (with_reducible repeat (first | refine blk_drewN ?_ _ | refine blk_drew ?_ | refine blk_alloc ?_ _)); exact BK212.out⟩, ⟨by (with_reducible repeat (first | refine blk_drewN ?_ _ | refine blk_drew ?_ | refine blk_alloc ?_ _)); exact BK218.out⟩, ⟨by repeat (first | (with_reducible first | exact HB.out | apply below_alloc | apply pw_below_drewN | apply below_drew1 | refine below_set ?_ GE212.out | refine below_set ?_ GE218.out) | exact HB.out)⟩⟩
             ·replace c40 := Bool.eq_false_iff.mpr c40
              subst c40
              have H1 : (if x10_4 ≤ (x4_2.length : Int) then ((head_field.f k4 (x4_2.take (x10_4 : Int).toNat)).bind fun bt235 => (if bt235.2.2.2 = true then (if x219000_2.length < 2932031007402 then (head_Parse.l1 k4 (x4_2.drop (x10_4 : Int).toNat) bt235.2.2.2 (x219000_2 ++ [(⟨bt235.1, bt235.2.1, bt235.2.2.1⟩ : S72)]) x219001_7 (decide (t217 < 0))) else (none)) else (head_Parse.l1 k4 (x4_2.drop (x10_4 : Int).toNat) bt235.2.2.2 x219000_2 x219001_7 (decide (t217 < 0))))) else (none)) = some (r1, r2, r3, r4) := by rw [if_neg (show ¬ (false = true) by decide)] at H; exact H
              clear H
              have H := H1
              clear H1
              have c42b0 := eq_true (od : 0 ≤ x10_4)
              by_cases c43 : x10_4 ≤ (x4_2.length : Int)
              ·rw [if_pos c43] at H
               have c43b0 := eq_true c43
               have c43b1 : decide (x10_4 ≤ (x4_2.length : Int)) = true := decide_eq_true c43
               clear c43
               obtain ⟨y231, hy231⟩ : ∃ y_ : List ByteArray, y_ = (x4_2.take (x10_4 : Int).toNat) := ⟨_, rfl⟩
               replace H : ((head_field.f k4 y231).bind fun bt235 => (if bt235.2.2.2 = true then (if x219000_2.length < 2932031007402 then (head_Parse.l1 k4 (x4_2.drop (x10_4 : Int).toNat) bt235.2.2.2 (x219000_2 ++ [(⟨bt235.1, bt235.2.1, bt235.2.2.1⟩ : S72)]) x219001_7 (decide (t217 < 0))) else (none)) else (head_Parse.l1 k4 (x4_2.drop (x10_4 : Int).toNat) bt235.2.2.2 x219000_2 x219001_7 (decide (t217 < 0))))) = some (r1, r2, r3, r4) := by first | (rw [hy231]; with_reducible exact H) | (have H2_ := (Option.bind_some _ _).symm.trans H; rw [hy231]; with_reducible exact H2_) | (have H2_ := (Option.bind_some _ _).symm.trans H; with_reducible exact H2_) | with_reducible exact H | (rw [hy231]; exact H) | exact H
               have Ny231 := Aside0.mk hy231
               clear hy231
               replace H := Option.bind_eq_some_iff.mp H
               obtain ⟨⟨t235, t236, t237, t238⟩, A440, H⟩ := H
               replace H : (if t238 = true then (if x219000_2.length < 2932031007402 then (head_Parse.l1 k4 (x4_2.drop (x10_4 : Int).toNat) t238 (x219000_2 ++ [(⟨t235, t236, t237⟩ : S72)]) x219001_7 (decide (t217 < 0))) else (none)) else (head_Parse.l1 k4 (x4_2.drop (x10_4 : Int).toNat) t238 x219000_2 x219001_7 (decide (t217 < 0)))) = some (r1, r2, r3, r4) := H
               have A44 := Aside0.mk A440
               clear A440
               by_cases c45 : t238 = true
               ·subst c45
                have H1 : (if x219000_2.length < 2932031007402 then (head_Parse.l1 k4 (x4_2.drop (x10_4 : Int).toNat) true (x219000_2 ++ [(⟨t235, t236, t237⟩ : S72)]) x219001_7 (decide (t217 < 0))) else (none)) = some (r1, r2, r3, r4) := by rw [if_pos rfl] at H; exact H
                clear H
                have H := H1
                clear H1
                by_cases c46 : x219000_2.length < 2932031007402
                ·rw [if_pos c46] at H
                 have LMc46 := Aside0.mk c46
                 clear c46
                 obtain ⟨y239, hy239⟩ : ∃ y_ : List (S72), y_ = (x219000_2 ++ [(⟨t235, t236, t237⟩ : S72)]) := ⟨_, rfl⟩
                 replace H : (head_Parse.l1 k4 (x4_2.drop (x10_4 : Int).toNat) true y239 x219001_7 (decide (t217 < 0))) = some (r1, r2, r3, r4) := by first | (rw [hy239]; with_reducible exact H) | (have H2_ := (Option.bind_some _ _).symm.trans H; rw [hy239]; with_reducible exact H2_) | (have H2_ := (Option.bind_some _ _).symm.trans H; with_reducible exact H2_) | with_reducible exact H | (rw [hy239]; exact H) | exact H
                 have Ny239 := Aside0.mk hy239
                 clear hy239
                 have c47b0 := eq_true (od : x10_4 ≤ (x4_2.length : Int))
                 obtain ⟨y242, hy242⟩ : ∃ y_ : List ByteArray, y_ = (x4_2.drop (x10_4 : Int).toNat) := ⟨_, rfl⟩
                 replace H : (head_Parse.l1 k4 y242 true y239 x219001_7 (decide (t217 < 0))) = some (r1, r2, r3, r4) := by first | (rw [hy242]; with_reducible exact H) | (have H2_ := (Option.bind_some _ _).symm.trans H; rw [hy242]; with_reducible exact H2_) | (have H2_ := (Option.bind_some _ _).symm.trans H; with_reducible exact H2_) | with_reducible exact H | (rw [hy242]; exact H) | exact H
                 have Ny242 := Aside0.mk hy242
                 clear hy242
                 have H' := Aside0.mk H
                 clear H
                 obtain ⟨Ao48, co48, eo48, _⟩ := Kd.Q_slice HO_4.out
                 subst eo48
                 have p228 : 0 ≤ (x10_4 : Int) := od
                 have q228 : x10_4 < (x4_2.length : Int) := od
                 obtain ⟨ad228, e228, hx228_0⟩ := Kd.at_string (Kd.Q_reads' HO_4.out).2.2 x10_4 p228 q228
                 cases e228
                 replace p228 := eq_true p228
                 replace q228 := eq_true q228
                 go_wp2_with (first | (go_at_call 49; (with_reducible refine (head_white.calls (rdOf ByteArray.empty x4_2 x10_4) false _ A39.out).mono ?_); rintro e w' ⟨rfl, ⟨nd, rfl⟩⟩; (try (rw [drewN_self wr]; generalize hq_ : World.drewN wr _ = wr; have n0_ : Aside0 (Kd.R k72 72 wr w.heap.size (fun _ => True) u219000 x219000_2) := ⟨by rw [← hq_]; exact (kr HO_219000.out)⟩; have n1_ : Aside0 (Kd.Q Kd.string 9 wr w.heap.size (fun _ => True) (.slice (some ad228) x4_2.length co48) x4_2) := ⟨by rw [← hq_]; exact (by (with_reducible repeat (first | apply Kd.Q_alloc | apply Kd.Q_drewN | apply Kd.Q_drew)); exact HO_4.out)⟩; have n2_ : Aside0 (wr.heap[gb212]? = some (.cells #[.slice none 0 0, .string (⟨#[]⟩ : ByteArray), .bool false] 24 (0, 0))) := ⟨by rw [← hq_]; exact (bk BK212.out)⟩; have n3_ : Aside0 (wr.heap[gb218]? = some (.cells #[u219000, .string x219001_7, .bool (decide (t217 < 0))] 24 (0, 0))) := ⟨by rw [← hq_]; exact (bk BK218.out)⟩; have n4_ : Aside0 (Below w.heap.size w wr) := ⟨by rw [← hq_]; exact bl⟩; clear HO_219000 HO_4 BK212 BK218 HB hq_; have HO_219000 := n0_; have HO_4 := n1_; have BK212 := n2_; have BK218 := n3_; have HB := n4_; clear n0_ n1_ n2_ n3_ n4_))) | ((with_reducible refine gate_dst (N := 11) rfl ?_); (try (refine gate_guard (by rfl) ?_; dsimp only)); refine box_event ?hg (N := 11) ?hd (cs := #[.string (⟨#[]⟩ : ByteArray), .string (⟨#[]⟩ : ByteArray), .string (⟨#[]⟩ : ByteArray)]) (t := 72) ?hr ?_; (case hd => rfl); (case hg => rfl); (case hr => first | (go_simp; done) | (go_simp; rfl)); intro gb230 hg w49 hbox hb; have n0_ := Aside0.mk (Kd.Q_below (by (with_reducible repeat (first | apply Kd.Q_alloc | apply Kd.Q_drewN | apply Kd.Q_drew)); exact HO_4.out) hb); have n1_ := Aside0.mk (Kd.R_below (Kd.R_elderB (kr HO_219000.out) gb230 (Nat.le_of_eq hg.symm)) hb); have n2_ := Aside0.mk (kb BK212.out hb); have n3_ := Aside0.mk (kb BK218.out hb); have n4_ := Aside0.mk (below_step bl hb); have n5_ := Aside0.mk (hbox); have n6_ := Aside0.mk ((by rw [hg]; exact (below_size bl) : w.heap.size ≤ gb230)); have n7_ := Aside0.mk ((by rw [hg]; exact (below_size bl) : w.heap.size ≤ gb230)); have n8_ := Aside0.mk ((by rw [hg]; exact Nat.ne_of_lt (blk_lt (bk BK212.out)) : gb212 ≠ gb230)); have n9_ := Aside0.mk ((by rw [hg]; exact Nat.ne_of_gt (blk_lt (bk BK212.out)) : gb230 ≠ gb212)); have n10_ := Aside0.mk ((by rw [hg]; exact Nat.ne_of_lt (blk_lt (bk BK218.out)) : gb218 ≠ gb230)); have n11_ := Aside0.mk ((by rw [hg]; exact Nat.ne_of_gt (blk_lt (bk BK218.out)) : gb230 ≠ gb218)); clear HO_4; clear HO_219000; clear BK212; clear BK218; clear HB; have HO_4 := n0_; have HO_219000 := n1_; have BK212 := n2_; have BK218 := n3_; have HB := n4_; have BK230 := n5_; have GW230 := n6_; have GE230 := n7_; have NB212_230 := n8_; have NB230_212 := n9_; have NB218_230 := n10_; have NB230_218 := n11_; clear n0_ n1_ n2_ n3_ n4_ n5_ n6_ n7_ n8_ n9_ n10_ n11_; clear hb hbox hg; have q50 : (x10_4 : Int) ≤ ((x4_2.length : Int) : Int) := od; obtain ⟨i050, hi050, _, hsz50, _⟩ := info_parts info9; have hroom50 : x4_2.length ≤ co48 := (Kd.Q_reads' HO_4.out).2.1; have hC50 : Kd.C Kd.string _ (some ad228) x4_2.length x4_2 := (Kd.Q_reads' HO_4.out).2.2; have hcut50 := cut_to (P := Tryz.prog) 84 9 .i64 Tryz.underlying84 hi050 (some ad228) x4_2.length co48 x10_4 (od) q50 hroom50; have hr50 := Kd.C_take (m := (x10_4 : Int).toNat) hC50 (by omega); have hy50 : y231.length = (x10_4 : Int).toNat := (by rw [Ny231.out, List.length_take]; omega); rw [← Ny231.out] at hr50; rw [← hy50] at hcut50; have HR234 := Aside0.mk hr50; have HC234 := Aside0.mk (show y231.length ≤ co48 from by omega); clear hr50 hC50 hroom50 hi050 hsz50; have KY50 := Aside0.mk hy50; clear hy50; have KL50 := Aside0.mk (show (x10_4 : Int).toNat ≤ x4_2.length from by omega); replace q50 := eq_true q50) | ((with_reducible refine gate_callee (f := 50) rfl ?_); refine goesL_ (some 71) rfl rfl Tryz.func50 (by kernel_rfl) rfl #[.slice (some ad228) y231.length co48] rfl ml ?_; (with_reducible refine (head_field.calls k4 _ _ y231 t235 t236 t237 true _ ?side1 ?side2 ?side3 A44.out).mono ?_); (case side1 => repeat (first | exact (by repeat (first | (with_reducible exact HR234.out) | (with_reducible refine Kd.C_alloc ?_ _) | (with_reducible refine Kd.C_drewN ?_ _) | (with_reducible refine Kd.C_drew ?_) | exact HR234.out)) | (with_reducible refine Kd.C_alloc ?_ _) | (with_reducible refine Kd.C_drewN ?_ _) | (with_reducible refine Kd.C_drew ?_))); (case side2 => exact HC234.out); (case side3 => exact Glob.below HG.out bl); rintro e w51 ⟨rfl, hb⟩; refine ⟨_, rfl, ?_⟩; have n0_ := Aside0.mk (Kd.Q_below (by (with_reducible repeat (first | apply Kd.Q_alloc | apply Kd.Q_drewN | apply Kd.Q_drew)); exact HO_4.out) hb); have n1_ := Aside0.mk (Kd.R_below (kr HO_219000.out) hb); have n2_ := Aside0.mk (kb BK212.out hb); have n3_ := Aside0.mk (kb BK218.out hb); have n4_ := Aside0.mk (kb BK230.out hb); have n5_ := Aside0.mk (Kd.C_below (by repeat (first | (with_reducible exact HR234.out) | (with_reducible refine Kd.C_alloc ?_ _) | (with_reducible refine Kd.C_drewN ?_ _) | (with_reducible refine Kd.C_drew ?_) | exact HR234.out)) hb); have n6_ := Aside0.mk (below_step bl hb); clear HO_4; clear HO_219000; clear BK212; clear BK218; clear BK230; clear HR234; clear HB; have HO_4 := n0_; have HO_219000 := n1_; have BK212 := n2_; have BK218 := n3_; have BK230 := n4_; have HR234 := n5_; have HB := n6_; clear n0_ n1_ n2_ n3_ n4_ n5_ n6_; (try clear hb); (try clear hb2); (try clear hk); (try clear hi); have hnb52 := NB230_212.out; have hnc52 := NB212_230.out; have hnb53 := NB230_218.out; have hnc53 := NB218_230.out; have hcz54_0 : w51.cell? ⟨gb230, 0, none⟩ = some (.string (⟨#[]⟩ : ByteArray)) := (blk_cell BK230.out 0).trans rfl; have hcz54_1 : w51.cell? ⟨gb230, 1, none⟩ = some (.string (⟨#[]⟩ : ByteArray)) := (blk_cell BK230.out 1).trans rfl; have hcz54_2 : w51.cell? ⟨gb230, 2, none⟩ = some (.string (⟨#[]⟩ : ByteArray)) := (blk_cell BK230.out 2).trans rfl; have hfz54_0 := blk_frozen BK230.out 0; have hfz54_1 := blk_frozen BK230.out 1; have hfz54_2 := blk_frozen BK230.out 2; have hnb55 := NB218_212.out; have hnc55 := NB212_218.out; have hcz56_0 : w51.cell? ⟨gb218, 0, none⟩ = some (u219000) := (blk_cell BK218.out 0).trans rfl; have hcz56_1 : w51.cell? ⟨gb218, 1, none⟩ = some (.string x219001_7) := (blk_cell BK218.out 1).trans rfl; have hcz56_2 : w51.cell? ⟨gb218, 2, none⟩ = some (.bool (decide (t217 < 0))) := (blk_cell BK218.out 2).trans rfl; have hfz56_0 := blk_frozen BK218.out 0; have hfz56_1 := blk_frozen BK218.out 1; have hfz56_2 := blk_frozen BK218.out 2) | ((with_reducible refine gate_builtin (b := .append) (xs := #[.tmp 76, .tmp 78]) rfl ?_); (try (refine gate_guard (by rfl) ?_; dsimp only)); at_builtin; refine Kd.R_append k72 (w0 := w) w.heap.size rfl (.tmp 76) (.tmp 78) 22 72 (.agg #[(.string ⟨#[]⟩), (.string ⟨#[]⟩), (.string ⟨#[]⟩)]) 48 rfl Tryz.underlying22 info72 rfl (by decide) (by omega) u219000 x219000_2 (⟨t235, t236, t237⟩ : S72) [.string t235, .string t236, .string t237] (fun k_ => k_ ≠ gb230) (fun _ => False) rfl (by first | (go_simp; done) | (go_simp; rfl)) ?aP (fun _ hk => hk.elim) ?aF ?aO ?aB ?aS ?aL ?_; (case aP => exact k72_mkM _ _ _ (⟨t235, t236, t237⟩ : S72)); (case aB => exact bl); (case aF => exact (fun k_ hk => Kd.freshB (g := gb230) (o := .cells #[.string t235, .string t236, .string t237] 72 (0, 0)) (by (with_reducible repeat (first | refine blk_drewN ?_ _ | refine blk_drew ?_ | refine blk_alloc ?_ _)); refine blk_put (cs := #[.string t235, .string t236, .string (⟨#[]⟩ : ByteArray)]) ?_ 2 _ rfl; (with_reducible repeat (first | refine blk_drewN ?_ _ | refine blk_drew ?_ | refine blk_alloc ?_ _)); refine blk_put (cs := #[.string t235, .string (⟨#[]⟩ : ByteArray), .string (⟨#[]⟩ : ByteArray)]) ?_ 1 _ rfl; (with_reducible repeat (first | refine blk_drewN ?_ _ | refine blk_drew ?_ | refine blk_alloc ?_ _)); refine blk_put (cs := #[.string (⟨#[]⟩ : ByteArray), .string (⟨#[]⟩ : ByteArray), .string (⟨#[]⟩ : ByteArray)]) ?_ 0 _ rfl; (with_reducible repeat (first | refine blk_drewN ?_ _ | refine blk_drew ?_ | refine blk_alloc ?_ _)); exact BK230.out) k_ hk)); (case aO => exact (by (with_reducible repeat (first | apply Kd.R_alloc | apply Kd.R_drewN | apply Kd.R_drew)); exact Kd.R_mono (Kd.R_far (p := ⟨gb230, 2, none⟩) (Kd.R_far (p := ⟨gb230, 1, none⟩) (Kd.R_far (p := ⟨gb230, 0, none⟩) (Kd.R_mono HO_219000.out (fun k_ hk => (⟨hk, hk.2⟩ : _ ∧ k_ ≠ gb230))) (fun _ hk => hk.2) (.string t235)) (fun _ hk => hk.2) (.string t236)) (fun _ hk => hk.2) (.string t237)) (fun _ hk => hk.1.2))); (case aS => exact (below_size bl)); (case aL => have := LMc46.out; omega); intro v240 w57 ho hb hg hat; rw [← Ny239.out] at ho; have n0_ := Aside0.mk (Kd.Q_over' (by (with_reducible repeat (first | apply Kd.Q_alloc | apply Kd.Q_drewN | apply Kd.Q_drew)); exact (Kd.Q_mono (Kd.Q_far (p := ⟨gb230, 2, none⟩) (Kd.Q_far (p := ⟨gb230, 1, none⟩) (Kd.Q_far (p := ⟨gb230, 0, none⟩) (Kd.Q_types HO_4.out BK230.out (by decide)) (fun _ hk => hk.2) (.string t235)) (fun _ hk => hk.2) (.string t236)) (fun _ hk => hk.2) (.string t237)) (fun _ h_ => h_.1))) (Kd.R_typed (by (with_reducible repeat (first | apply Kd.R_alloc | apply Kd.R_drewN | apply Kd.R_drew)); exact (Kd.R_mono (Kd.R_far (p := ⟨gb230, 2, none⟩) (Kd.R_far (p := ⟨gb230, 1, none⟩) (Kd.R_far (p := ⟨gb230, 0, none⟩) (Kd.R_mono HO_219000.out (fun k_ hk => (⟨hk, hk.2⟩ : _ ∧ k_ ≠ gb230))) (fun _ hk => hk.2) (.string t235)) (fun _ hk => hk.2) (.string t236)) (fun _ hk => hk.2) (.string t237)) (fun _ h_ => h_.1)))) (by decide) hg); have n1_ := Aside0.mk (blk_grown (g := gb212) (o := .cells #[.slice none 0 0, .string (⟨#[]⟩ : ByteArray), .bool false] 24 (0, 0)) (bk BK212.out) hg (Kd.R_ne HO_219000.out BK212.out (by decide))); have n2_ := Aside0.mk (blk_grown (g := gb218) (o := .cells #[u219000, .string x219001_7, .bool (decide (t217 < 0))] 24 (0, 0)) (bk BK218.out) hg (Kd.R_ne HO_219000.out BK218.out (by decide))); have n3_ := Aside0.mk (blk_grown (g := gb230) (o := .cells #[.string t235, .string t236, .string t237] 72 (0, 0)) (by (with_reducible repeat (first | refine blk_drewN ?_ _ | refine blk_drew ?_ | refine blk_alloc ?_ _)); refine blk_put (cs := #[.string t235, .string t236, .string (⟨#[]⟩ : ByteArray)]) ?_ 2 _ rfl; (with_reducible repeat (first | refine blk_drewN ?_ _ | refine blk_drew ?_ | refine blk_alloc ?_ _)); refine blk_put (cs := #[.string t235, .string (⟨#[]⟩ : ByteArray), .string (⟨#[]⟩ : ByteArray)]) ?_ 1 _ rfl; (with_reducible repeat (first | refine blk_drewN ?_ _ | refine blk_drew ?_ | refine blk_alloc ?_ _)); refine blk_put (cs := #[.string (⟨#[]⟩ : ByteArray), .string (⟨#[]⟩ : ByteArray), .string (⟨#[]⟩ : ByteArray)]) ?_ 0 _ rfl; (with_reducible repeat (first | refine blk_drewN ?_ _ | refine blk_drew ?_ | refine blk_alloc ?_ _)); exact BK230.out) hg (Kd.R_away HO_219000.out (fun _ hk => hk.2))); have n4_ := Aside0.mk (hb); have n5_ := Aside0.mk ((show Kd.C Kd.string w57 (some ad228) y231.length y231 from by rw [Ny231.out]; exact Kd.C_take (m := (x10_4 : Int).toNat) ((Kd.Q_reads' (Kd.Q_over' (by (with_reducible repeat (first | apply Kd.Q_alloc | apply Kd.Q_drewN | apply Kd.Q_drew)); exact (Kd.Q_mono (Kd.Q_far (p := ⟨gb230, 2, none⟩) (Kd.Q_far (p := ⟨gb230, 1, none⟩) (Kd.Q_far (p := ⟨gb230, 0, none⟩) (Kd.Q_types HO_4.out BK230.out (by decide)) (fun _ hk => hk.2) (.string t235)) (fun _ hk => hk.2) (.string t236)) (fun _ hk => hk.2) (.string t237)) (fun _ h_ => h_.1))) (Kd.R_typed (by (with_reducible repeat (first | apply Kd.R_alloc | apply Kd.R_drewN | apply Kd.R_drew)); exact (Kd.R_mono (Kd.R_far (p := ⟨gb230, 2, none⟩) (Kd.R_far (p := ⟨gb230, 1, none⟩) (Kd.R_far (p := ⟨gb230, 0, none⟩) (Kd.R_mono HO_219000.out (fun k_ hk => (⟨hk, hk.2⟩ : _ ∧ k_ ≠ gb230))) (fun _ hk => hk.2) (.string t235)) (fun _ hk => hk.2) (.string t236)) (fun _ hk => hk.2) (.string t237)) (fun _ h_ => h_.1)))) (by decide) hg)).2.2) KL50.out)); have n6_ := Aside0.mk (ho); clear HO_4; clear BK212; clear BK218; clear BK230; clear HB; clear HR234; clear HO_219000; have HO_4 := n0_; have BK212 := n1_; have BK218 := n2_; have BK230 := n3_; have HB := n4_; have HR234 := n5_; have HO241 := n6_; clear n0_ n1_ n2_ n3_ n4_ n5_ n6_; clear ho hb hg hat; obtain ⟨Ao58, co58, eo58⟩ := Kd.R_slice HO241.out; subst eo58; have hcz59_0 : w57.cell? ⟨gb218, 0, none⟩ = some (u219000) := (blk_cell BK218.out 0).trans rfl; have hcz59_1 : w57.cell? ⟨gb218, 1, none⟩ = some (.string x219001_7) := (blk_cell BK218.out 1).trans rfl; have hcz59_2 : w57.cell? ⟨gb218, 2, none⟩ = some (.bool (decide (t217 < 0))) := (blk_cell BK218.out 2).trans rfl; have hfz59_0 := blk_frozen BK218.out 0; have hfz59_1 := blk_frozen BK218.out 1; have hfz59_2 := blk_frozen BK218.out 2) | ((with_reducible refine gate_store (t := 22) (p := 80) rfl ?_); refine store_event (t := 22) (p := 80) (v := ?vo_w60) (w1 := (w57.setCell ⟨gb218, 0, none⟩ (.slice Ao58 y239.length co58))) ?hg ?ho ?hn ?hr ?_; (case ho => rfl); (case hg => rfl); (case hn => rfl); (case hr => first | (go_simp; done) | (go_simp; rfl)); intro w60 hw; have n0_ : Aside0 (Kd.Q Kd.string 9 w60 w.heap.size (fun _ => True) (.slice (some ad228) x4_2.length co48) x4_2) := ⟨(by rw [hw]; exact (by (with_reducible repeat (first | apply Kd.Q_alloc | apply Kd.Q_drewN | apply Kd.Q_drew)); exact Kd.Q_mono (Kd.Q_far (p := ⟨gb218, 0, none⟩) (Kd.Q_types HO_4.out BK218.out (by decide)) (fun _ hk => hk.2) (.slice Ao58 y239.length co58)) (fun _ hk => trivial)))⟩; have n1_ : Aside0 (Kd.R k72 72 w60 w.heap.size (fun k_ => k_ ≠ gb230) (.slice Ao58 y239.length co58) y239) := ⟨(by rw [hw]; exact (by (with_reducible repeat (first | apply Kd.R_alloc | apply Kd.R_drewN | apply Kd.R_drew)); exact Kd.R_mono (Kd.R_far (p := ⟨gb218, 0, none⟩) (Kd.R_types HO241.out BK218.out (by decide)) (fun _ hk => hk.2) (.slice Ao58 y239.length co58)) (fun _ hk => hk.1)))⟩; have n2_ : Aside0 (w60.heap[gb212]? = some (.cells #[.slice none 0 0, .string (⟨#[]⟩ : ByteArray), .bool false] 24 (0, 0))) := ⟨(by rw [hw]; exact (bk BK212.out))⟩; have n3_ : Aside0 (w60.heap[gb218]? = some (.cells #[.slice Ao58 y239.length co58, .string x219001_7, .bool (decide (t217 < 0))] 24 (0, 0))) := ⟨(by rw [hw]; exact (by (with_reducible repeat (first | refine blk_drewN ?_ _ | refine blk_drew ?_ | refine blk_alloc ?_ _)); refine blk_put (cs := #[u219000, .string x219001_7, .bool (decide (t217 < 0))]) ?_ 0 _ rfl; (with_reducible repeat (first | refine blk_drewN ?_ _ | refine blk_drew ?_ | refine blk_alloc ?_ _)); exact BK218.out))⟩; have n4_ : Aside0 (w60.heap[gb230]? = some (.cells #[.string t235, .string t236, .string t237] 72 (0, 0))) := ⟨(by rw [hw]; exact (bk BK230.out))⟩; have n5_ : Aside0 (Below w.heap.size w w60) := ⟨(by rw [hw]; exact bl)⟩; clear hw; clear HO_4; clear HO241; clear BK212; clear BK218; clear BK230; clear HB; have HO_4 := n0_; have HO241 := n1_; have BK212 := n2_; have BK218 := n3_; have BK230 := n4_; have HB := n5_; clear n0_ n1_ n2_ n3_ n4_ n5_; have q61 : (x10_4 : Int) ≤ ((x4_2.length : Int) : Int) := od; obtain ⟨i061, hi061, _, hsz61, _⟩ := info_parts info9; have hcut61 := cut_from (P := Tryz.prog) 84 9 .i64 Tryz.underlying84 hi061 1 hsz61 (some ad228) x4_2.length co48 x10_4 (od) q61; have hr61 := Kd.Q_drop (k := (x10_4 : Int).toNat) HO_4.out (by omega); obtain ⟨A61, hA61⟩ : ∃ A1, A1 = (if co48 = (x10_4 : Int).toNat then (some ad228) else ((some ad228) : Option Addr).map (·.add ((x10_4 : Int).toNat * 1))) := ⟨_, rfl⟩; obtain ⟨c61, hc61⟩ : ∃ c1, c1 = co48 - (x10_4 : Int).toNat := ⟨_, rfl⟩; have hy61 : y242.length = x4_2.length - (x10_4 : Int).toNat := (by rw [Ny242.out, List.length_drop]); rw [← Ny242.out] at hr61; rw [← hy61, ← hA61, ← hc61] at hcut61; replace hr61 : Kd.Q Kd.string 9 w60 w.heap.size (fun _ => True) (.slice A61 y242.length c61) y242 := (by rw [hA61, hc61, hy61]; exact hr61); have HE61 : Aside0 ((Value.slice A61 y242.length c61).ownBlock = (.slice (some ad228) x4_2.length co48 : Value).ownBlock) := ⟨by rw [hA61]; split <;> (cases ((some ad228) : Option Addr) <;> first | rfl | (simp only [Option.map_some, Value.ownBlock, add_block]; done))⟩; clear hy61 hi061 hsz61 HO_4 hA61 hc61; have HO244 := Aside0.mk hr61; clear hr61; replace q61 := eq_true q61))
                 go_roundg k4
                 case measure => have := HJ7.out; have := HK2.out; have := HJ32.out; have := HK4.out; omega
                 case rel => exact ⟨(y242), (true), (y239), (.slice Ao58 y239.length co58), (by first | rfl | (simp; done) | (simp [*]; done)), H', ⟨by have := HJ7.out; have := HK2.out; have := HJ32.out; have := HK4.out; omega⟩, ⟨by (with_reducible repeat (first | apply Kd.Q_alloc | apply Kd.Q_drewN | apply Kd.Q_drew)); exact HO244.out⟩, ⟨by (with_reducible repeat (first | apply Kd.R_alloc | apply Kd.R_drewN | apply Kd.R_drew)); exact Kd.R_mono HO241.out (fun _ hk => trivial)⟩, ⟨by (with_reducible repeat (first | refine blk_drewN ?_ _ | refine blk_drew ?_ | refine blk_alloc ?_ _)); exact BK212.out⟩, ⟨by (with_reducible repeat (first | refine blk_drewN ?_ _ | refine blk_drew ?_ | refine blk_alloc ?_ _)); exact BK218.out⟩, ⟨by repeat (first | (with_reducible first | exact HB.out | apply below_alloc | apply pw_below_drewN | apply below_drew1 | refine below_set ?_ GE212.out | refine below_set ?_ GE218.out | refine below_set ?_ GE230.out) | exact HB.out)⟩⟩
                ·rw [if_neg c46] at H
                 exact absurd H (by simp)
               ·replace c45 := Bool.eq_false_iff.mpr c45
                subst c45
                have H1 : (head_Parse.l1 k4 (x4_2.drop (x10_4 : Int).toNat) false x219000_2 x219001_7 (decide (t217 < 0))) = some (r1, r2, r3, r4) := by rw [if_neg (show ¬ (false = true) by decide)] at H; exact H
                clear H
                have H := H1
                clear H1
                have c62b0 := eq_true (od : x10_4 ≤ (x4_2.length : Int))
                obtain ⟨y245, hy245⟩ : ∃ y_ : List ByteArray, y_ = (x4_2.drop (x10_4 : Int).toNat) := ⟨_, rfl⟩
                replace H : (head_Parse.l1 k4 y245 false x219000_2 x219001_7 (decide (t217 < 0))) = some (r1, r2, r3, r4) := by first | (rw [hy245]; with_reducible exact H) | (have H2_ := (Option.bind_some _ _).symm.trans H; rw [hy245]; with_reducible exact H2_) | (have H2_ := (Option.bind_some _ _).symm.trans H; with_reducible exact H2_) | with_reducible exact H | (rw [hy245]; exact H) | exact H
                have Ny245 := Aside0.mk hy245
                clear hy245
                have H' := Aside0.mk H
                clear H
                obtain ⟨Ao63, co63, eo63, _⟩ := Kd.Q_slice HO_4.out
                subst eo63
                have p228 : 0 ≤ (x10_4 : Int) := od
                have q228 : x10_4 < (x4_2.length : Int) := od
                obtain ⟨ad228, e228, hx228_0⟩ := Kd.at_string (Kd.Q_reads' HO_4.out).2.2 x10_4 p228 q228
                cases e228
                replace p228 := eq_true p228
                replace q228 := eq_true q228
                go_wp2_with (first | (go_at_call 49; (with_reducible refine (head_white.calls (rdOf ByteArray.empty x4_2 x10_4) false _ A39.out).mono ?_); rintro e w' ⟨rfl, ⟨nd, rfl⟩⟩; (try (rw [drewN_self wr]; generalize hq_ : World.drewN wr _ = wr; have n0_ : Aside0 (Kd.R k72 72 wr w.heap.size (fun _ => True) u219000 x219000_2) := ⟨by rw [← hq_]; exact (kr HO_219000.out)⟩; have n1_ : Aside0 (Kd.Q Kd.string 9 wr w.heap.size (fun _ => True) (.slice (some ad228) x4_2.length co63) x4_2) := ⟨by rw [← hq_]; exact (by (with_reducible repeat (first | apply Kd.Q_alloc | apply Kd.Q_drewN | apply Kd.Q_drew)); exact HO_4.out)⟩; have n2_ : Aside0 (wr.heap[gb212]? = some (.cells #[.slice none 0 0, .string (⟨#[]⟩ : ByteArray), .bool false] 24 (0, 0))) := ⟨by rw [← hq_]; exact (bk BK212.out)⟩; have n3_ : Aside0 (wr.heap[gb218]? = some (.cells #[u219000, .string x219001_7, .bool (decide (t217 < 0))] 24 (0, 0))) := ⟨by rw [← hq_]; exact (bk BK218.out)⟩; have n4_ : Aside0 (Below w.heap.size w wr) := ⟨by rw [← hq_]; exact bl⟩; clear HO_219000 HO_4 BK212 BK218 HB hq_; have HO_219000 := n0_; have HO_4 := n1_; have BK212 := n2_; have BK218 := n3_; have HB := n4_; clear n0_ n1_ n2_ n3_ n4_))) | ((with_reducible refine gate_dst (N := 11) rfl ?_); (try (refine gate_guard (by rfl) ?_; dsimp only)); refine box_event ?hg (N := 11) ?hd (cs := #[.string (⟨#[]⟩ : ByteArray), .string (⟨#[]⟩ : ByteArray), .string (⟨#[]⟩ : ByteArray)]) (t := 72) ?hr ?_; (case hd => rfl); (case hg => rfl); (case hr => first | (go_simp; done) | (go_simp; rfl)); intro gb230 hg w64 hbox hb; have n0_ := Aside0.mk (Kd.Q_below (by (with_reducible repeat (first | apply Kd.Q_alloc | apply Kd.Q_drewN | apply Kd.Q_drew)); exact HO_4.out) hb); have n1_ := Aside0.mk (Kd.R_below (Kd.R_elderB (kr HO_219000.out) gb230 (Nat.le_of_eq hg.symm)) hb); have n2_ := Aside0.mk (kb BK212.out hb); have n3_ := Aside0.mk (kb BK218.out hb); have n4_ := Aside0.mk (below_step bl hb); have n5_ := Aside0.mk (hbox); have n6_ := Aside0.mk ((by rw [hg]; exact (below_size bl) : w.heap.size ≤ gb230)); have n7_ := Aside0.mk ((by rw [hg]; exact (below_size bl) : w.heap.size ≤ gb230)); have n8_ := Aside0.mk ((by rw [hg]; exact Nat.ne_of_lt (blk_lt (bk BK212.out)) : gb212 ≠ gb230)); have n9_ := Aside0.mk ((by rw [hg]; exact Nat.ne_of_gt (blk_lt (bk BK212.out)) : gb230 ≠ gb212)); have n10_ := Aside0.mk ((by rw [hg]; exact Nat.ne_of_lt (blk_lt (bk BK218.out)) : gb218 ≠ gb230)); have n11_ := Aside0.mk ((by rw [hg]; exact Nat.ne_of_gt (blk_lt (bk BK218.out)) : gb230 ≠ gb218)); clear HO_4; clear HO_219000; clear BK212; clear BK218; clear HB; have HO_4 := n0_; have HO_219000 := n1_; have BK212 := n2_; have BK218 := n3_; have HB := n4_; have BK230 := n5_; have GW230 := n6_; have GE230 := n7_; have NB212_230 := n8_; have NB230_212 := n9_; have NB218_230 := n10_; have NB230_218 := n11_; clear n0_ n1_ n2_ n3_ n4_ n5_ n6_ n7_ n8_ n9_ n10_ n11_; clear hb hbox hg; have q65 : (x10_4 : Int) ≤ ((x4_2.length : Int) : Int) := od; obtain ⟨i065, hi065, _, hsz65, _⟩ := info_parts info9; have hroom65 : x4_2.length ≤ co63 := (Kd.Q_reads' HO_4.out).2.1; have hC65 : Kd.C Kd.string _ (some ad228) x4_2.length x4_2 := (Kd.Q_reads' HO_4.out).2.2; have hcut65 := cut_to (P := Tryz.prog) 84 9 .i64 Tryz.underlying84 hi065 (some ad228) x4_2.length co63 x10_4 (od) q65 hroom65; have hr65 := Kd.C_take (m := (x10_4 : Int).toNat) hC65 (by omega); have hy65 : y231.length = (x10_4 : Int).toNat := (by rw [Ny231.out, List.length_take]; omega); rw [← Ny231.out] at hr65; rw [← hy65] at hcut65; have HR234 := Aside0.mk hr65; have HC234 := Aside0.mk (show y231.length ≤ co63 from by omega); clear hr65 hC65 hroom65 hi065 hsz65; have KY65 := Aside0.mk hy65; clear hy65; have KL65 := Aside0.mk (show (x10_4 : Int).toNat ≤ x4_2.length from by omega); replace q65 := eq_true q65) | ((with_reducible refine gate_callee (f := 50) rfl ?_); refine goesL_ (some 71) rfl rfl Tryz.func50 (by kernel_rfl) rfl #[.slice (some ad228) y231.length co63] rfl ml ?_; (with_reducible refine (head_field.calls k4 _ _ y231 t235 t236 t237 false _ ?side1 ?side2 ?side3 A44.out).mono ?_); (case side1 => repeat (first | exact (by repeat (first | (with_reducible exact HR234.out) | (with_reducible refine Kd.C_alloc ?_ _) | (with_reducible refine Kd.C_drewN ?_ _) | (with_reducible refine Kd.C_drew ?_) | exact HR234.out)) | (with_reducible refine Kd.C_alloc ?_ _) | (with_reducible refine Kd.C_drewN ?_ _) | (with_reducible refine Kd.C_drew ?_))); (case side2 => exact HC234.out); (case side3 => exact Glob.below HG.out bl); rintro e w66 ⟨rfl, hb⟩; refine ⟨_, rfl, ?_⟩; have n0_ := Aside0.mk (Kd.Q_below (by (with_reducible repeat (first | apply Kd.Q_alloc | apply Kd.Q_drewN | apply Kd.Q_drew)); exact HO_4.out) hb); have n1_ := Aside0.mk (Kd.R_below (kr HO_219000.out) hb); have n2_ := Aside0.mk (kb BK212.out hb); have n3_ := Aside0.mk (kb BK218.out hb); have n4_ := Aside0.mk (kb BK230.out hb); have n5_ := Aside0.mk (Kd.C_below (by repeat (first | (with_reducible exact HR234.out) | (with_reducible refine Kd.C_alloc ?_ _) | (with_reducible refine Kd.C_drewN ?_ _) | (with_reducible refine Kd.C_drew ?_) | exact HR234.out)) hb); have n6_ := Aside0.mk (below_step bl hb); clear HO_4; clear HO_219000; clear BK212; clear BK218; clear BK230; clear HR234; clear HB; have HO_4 := n0_; have HO_219000 := n1_; have BK212 := n2_; have BK218 := n3_; have BK230 := n4_; have HR234 := n5_; have HB := n6_; clear n0_ n1_ n2_ n3_ n4_ n5_ n6_; (try clear hb); (try clear hb2); (try clear hk); (try clear hi); have hnb67 := NB230_212.out; have hnc67 := NB212_230.out; have hnb68 := NB230_218.out; have hnc68 := NB218_230.out; have hcz69_0 : w66.cell? ⟨gb230, 0, none⟩ = some (.string (⟨#[]⟩ : ByteArray)) := (blk_cell BK230.out 0).trans rfl; have hcz69_1 : w66.cell? ⟨gb230, 1, none⟩ = some (.string (⟨#[]⟩ : ByteArray)) := (blk_cell BK230.out 1).trans rfl; have hcz69_2 : w66.cell? ⟨gb230, 2, none⟩ = some (.string (⟨#[]⟩ : ByteArray)) := (blk_cell BK230.out 2).trans rfl; have hfz69_0 := blk_frozen BK230.out 0; have hfz69_1 := blk_frozen BK230.out 1; have hfz69_2 := blk_frozen BK230.out 2) | ((with_reducible refine gate_store (t := 72) (p := 11) rfl ?_); refine store_event (t := 72) (p := 11) (v := ?vo_w70) (w1 := (((w66.setCell ⟨gb230, 0, none⟩ (.string t235)).setCell ⟨gb230, 1, none⟩ (.string t236)).setCell ⟨gb230, 2, none⟩ (.string t237))) ?hg ?ho ?hn ?hr ?_; (case ho => rfl); (case hg => rfl); (case hn => rfl); (case hr => first | (go_simp; done) | (go_simp; rfl)); intro w70 hw; have n0_ : Aside0 (Kd.Q Kd.string 9 w70 w.heap.size (fun _ => True) (.slice (some ad228) x4_2.length co63) x4_2) := ⟨(by rw [hw]; exact (by (with_reducible repeat (first | apply Kd.Q_alloc | apply Kd.Q_drewN | apply Kd.Q_drew)); exact Kd.Q_mono (Kd.Q_far (p := ⟨gb230, 2, none⟩) (Kd.Q_far (p := ⟨gb230, 1, none⟩) (Kd.Q_far (p := ⟨gb230, 0, none⟩) (Kd.Q_types HO_4.out BK230.out (by decide)) (fun _ hk => hk.2) (.string t235)) (fun _ hk => hk.2) (.string t236)) (fun _ hk => hk.2) (.string t237)) (fun _ hk => trivial)))⟩; have n1_ : Aside0 (Kd.R k72 72 w70 w.heap.size (fun k_ => k_ ≠ gb230) u219000 x219000_2) := ⟨(by rw [hw]; exact (by (with_reducible repeat (first | apply Kd.R_alloc | apply Kd.R_drewN | apply Kd.R_drew)); exact Kd.R_mono (Kd.R_far (p := ⟨gb230, 2, none⟩) (Kd.R_far (p := ⟨gb230, 1, none⟩) (Kd.R_far (p := ⟨gb230, 0, none⟩) (Kd.R_mono HO_219000.out (fun k_ hk => (⟨hk, hk.2⟩ : _ ∧ k_ ≠ gb230))) (fun _ hk => hk.2) (.string t235)) (fun _ hk => hk.2) (.string t236)) (fun _ hk => hk.2) (.string t237)) (fun _ hk => hk.1.2)))⟩; have n2_ : Aside0 (w70.heap[gb212]? = some (.cells #[.slice none 0 0, .string (⟨#[]⟩ : ByteArray), .bool false] 24 (0, 0))) := ⟨(by rw [hw]; exact (bk BK212.out))⟩; have n3_ : Aside0 (w70.heap[gb218]? = some (.cells #[u219000, .string x219001_7, .bool (decide (t217 < 0))] 24 (0, 0))) := ⟨(by rw [hw]; exact (bk BK218.out))⟩; have n4_ : Aside0 (w70.heap[gb230]? = some (.cells #[.string t235, .string t236, .string t237] 72 (0, 0))) := ⟨(by rw [hw]; exact (by (with_reducible repeat (first | refine blk_drewN ?_ _ | refine blk_drew ?_ | refine blk_alloc ?_ _)); refine blk_put (cs := #[.string t235, .string t236, .string (⟨#[]⟩ : ByteArray)]) ?_ 2 _ rfl; (with_reducible repeat (first | refine blk_drewN ?_ _ | refine blk_drew ?_ | refine blk_alloc ?_ _)); refine blk_put (cs := #[.string t235, .string (⟨#[]⟩ : ByteArray), .string (⟨#[]⟩ : ByteArray)]) ?_ 1 _ rfl; (with_reducible repeat (first | refine blk_drewN ?_ _ | refine blk_drew ?_ | refine blk_alloc ?_ _)); refine blk_put (cs := #[.string (⟨#[]⟩ : ByteArray), .string (⟨#[]⟩ : ByteArray), .string (⟨#[]⟩ : ByteArray)]) ?_ 0 _ rfl; (with_reducible repeat (first | refine blk_drewN ?_ _ | refine blk_drew ?_ | refine blk_alloc ?_ _)); exact BK230.out))⟩; have n5_ : Aside0 (Below w.heap.size w w70) := ⟨(by rw [hw]; exact bl)⟩; clear hw; clear HO_4; clear HO_219000; clear BK212; clear BK218; clear BK230; clear HB; have HO_4 := n0_; have HO_219000 := n1_; have BK212 := n2_; have BK218 := n3_; have BK230 := n4_; have HB := n5_; clear n0_ n1_ n2_ n3_ n4_ n5_; have q71 : (x10_4 : Int) ≤ ((x4_2.length : Int) : Int) := od; obtain ⟨i071, hi071, _, hsz71, _⟩ := info_parts info9; have hcut71 := cut_from (P := Tryz.prog) 84 9 .i64 Tryz.underlying84 hi071 1 hsz71 (some ad228) x4_2.length co63 x10_4 (od) q71; have hr71 := Kd.Q_drop (k := (x10_4 : Int).toNat) HO_4.out (by omega); obtain ⟨A71, hA71⟩ : ∃ A1, A1 = (if co63 = (x10_4 : Int).toNat then (some ad228) else ((some ad228) : Option Addr).map (·.add ((x10_4 : Int).toNat * 1))) := ⟨_, rfl⟩; obtain ⟨c71, hc71⟩ : ∃ c1, c1 = co63 - (x10_4 : Int).toNat := ⟨_, rfl⟩; have hy71 : y245.length = x4_2.length - (x10_4 : Int).toNat := (by rw [Ny245.out, List.length_drop]); rw [← Ny245.out] at hr71; rw [← hy71, ← hA71, ← hc71] at hcut71; replace hr71 : Kd.Q Kd.string 9 w70 w.heap.size (fun _ => True) (.slice A71 y245.length c71) y245 := (by rw [hA71, hc71, hy71]; exact hr71); have HE71 : Aside0 ((Value.slice A71 y245.length c71).ownBlock = (.slice (some ad228) x4_2.length co63 : Value).ownBlock) := ⟨by rw [hA71]; split <;> (cases ((some ad228) : Option Addr) <;> first | rfl | (simp only [Option.map_some, Value.ownBlock, add_block]; done))⟩; clear hy71 hi071 hsz71 HO_4 hA71 hc71; have HO247 := Aside0.mk hr71; clear hr71; replace q71 := eq_true q71))
                go_roundg k4
                case measure => have := HJ7.out; have := HK2.out; have := HJ32.out; have := HK4.out; omega
                case rel => exact ⟨(y245), (false), (x219000_2), (u219000), (by first | rfl | (simp; done) | (simp [*]; done)), H', ⟨by have := HJ7.out; have := HK2.out; have := HJ32.out; have := HK4.out; omega⟩, ⟨by (with_reducible repeat (first | apply Kd.Q_alloc | apply Kd.Q_drewN | apply Kd.Q_drew)); exact HO247.out⟩, ⟨by (with_reducible repeat (first | apply Kd.R_alloc | apply Kd.R_drewN | apply Kd.R_drew)); exact Kd.R_mono HO_219000.out (fun _ hk => trivial)⟩, ⟨by (with_reducible repeat (first | refine blk_drewN ?_ _ | refine blk_drew ?_ | refine blk_alloc ?_ _)); exact BK212.out⟩, ⟨by (with_reducible repeat (first | refine blk_drewN ?_ _ | refine blk_drew ?_ | refine blk_alloc ?_ _)); exact BK218.out⟩, ⟨by repeat (first | (with_reducible first | exact HB.out | apply below_alloc | apply pw_below_drewN | apply below_drew1 | refine below_set ?_ GE212.out | refine below_set ?_ GE218.out | refine below_set ?_ GE230.out) | exact HB.out)⟩⟩
              ·rw [if_neg c43] at H
               exact absurd H (by simp)
            ·rw [if_neg c38] at H
             exact absurd H (by simp)
           ·rw [if_neg c37] at H
            have c37b0 : decide (x10_4 < (x4_2.length : Int)) = false := decide_eq_false c37
            clear c37
            by_cases c72 : 0 ≤ x10_4
            ·rw [if_pos c72] at H
             have c72b0 := eq_true c72
             have c72b1 : decide (0 ≤ x10_4) = true := decide_eq_true c72
             clear c72
             by_cases c73 : x10_4 ≤ (x4_2.length : Int)
             ·rw [if_pos c73] at H
              have c73b0 := eq_true c73
              have c73b1 : decide (x10_4 ≤ (x4_2.length : Int)) = true := decide_eq_true c73
              clear c73
              obtain ⟨y249, hy249⟩ : ∃ y_ : List ByteArray, y_ = (x4_2.take (x10_4 : Int).toNat) := ⟨_, rfl⟩
              replace H : ((head_field.f k4 y249).bind fun bt253 => (if bt253.2.2.2 = true then (if x219000_2.length < 2932031007402 then (head_Parse.l1 k4 (x4_2.drop (x10_4 : Int).toNat) bt253.2.2.2 (x219000_2 ++ [(⟨bt253.1, bt253.2.1, bt253.2.2.1⟩ : S72)]) x219001_7 (decide (t217 < 0))) else (none)) else (head_Parse.l1 k4 (x4_2.drop (x10_4 : Int).toNat) bt253.2.2.2 x219000_2 x219001_7 (decide (t217 < 0))))) = some (r1, r2, r3, r4) := by first | (rw [hy249]; with_reducible exact H) | (have H2_ := (Option.bind_some _ _).symm.trans H; rw [hy249]; with_reducible exact H2_) | (have H2_ := (Option.bind_some _ _).symm.trans H; with_reducible exact H2_) | with_reducible exact H | (rw [hy249]; exact H) | exact H
              have Ny249 := Aside0.mk hy249
              clear hy249
              replace H := Option.bind_eq_some_iff.mp H
              obtain ⟨⟨t253, t254, t255, t256⟩, A740, H⟩ := H
              replace H : (if t256 = true then (if x219000_2.length < 2932031007402 then (head_Parse.l1 k4 (x4_2.drop (x10_4 : Int).toNat) t256 (x219000_2 ++ [(⟨t253, t254, t255⟩ : S72)]) x219001_7 (decide (t217 < 0))) else (none)) else (head_Parse.l1 k4 (x4_2.drop (x10_4 : Int).toNat) t256 x219000_2 x219001_7 (decide (t217 < 0)))) = some (r1, r2, r3, r4) := H
              have A74 := Aside0.mk A740
              clear A740
              by_cases c75 : t256 = true
              ·subst c75
               have H1 : (if x219000_2.length < 2932031007402 then (head_Parse.l1 k4 (x4_2.drop (x10_4 : Int).toNat) true (x219000_2 ++ [(⟨t253, t254, t255⟩ : S72)]) x219001_7 (decide (t217 < 0))) else (none)) = some (r1, r2, r3, r4) := by rw [if_pos rfl] at H; exact H
               clear H
               have H := H1
               clear H1
               by_cases c76 : x219000_2.length < 2932031007402
               ·rw [if_pos c76] at H
                have LMc76 := Aside0.mk c76
                clear c76
                obtain ⟨y257, hy257⟩ : ∃ y_ : List (S72), y_ = (x219000_2 ++ [(⟨t253, t254, t255⟩ : S72)]) := ⟨_, rfl⟩
                replace H : (head_Parse.l1 k4 (x4_2.drop (x10_4 : Int).toNat) true y257 x219001_7 (decide (t217 < 0))) = some (r1, r2, r3, r4) := by first | (rw [hy257]; with_reducible exact H) | (have H2_ := (Option.bind_some _ _).symm.trans H; rw [hy257]; with_reducible exact H2_) | (have H2_ := (Option.bind_some _ _).symm.trans H; with_reducible exact H2_) | with_reducible exact H | (rw [hy257]; exact H) | exact H
                have Ny257 := Aside0.mk hy257
                clear hy257
                have c77b0 := eq_true (od : x10_4 ≤ (x4_2.length : Int))
                obtain ⟨y260, hy260⟩ : ∃ y_ : List ByteArray, y_ = (x4_2.drop (x10_4 : Int).toNat) := ⟨_, rfl⟩
                replace H : (head_Parse.l1 k4 y260 true y257 x219001_7 (decide (t217 < 0))) = some (r1, r2, r3, r4) := by first | (rw [hy260]; with_reducible exact H) | (have H2_ := (Option.bind_some _ _).symm.trans H; rw [hy260]; with_reducible exact H2_) | (have H2_ := (Option.bind_some _ _).symm.trans H; with_reducible exact H2_) | with_reducible exact H | (rw [hy260]; exact H) | exact H
                have Ny260 := Aside0.mk hy260
                clear hy260
                have H' := Aside0.mk H
                clear H
                obtain ⟨Ao78, co78, eo78, _⟩ := Kd.Q_slice HO_4.out
                subst eo78
                go_wp2_with (first | ((with_reducible refine gate_dst (N := 11) rfl ?_); (try (refine gate_guard (by rfl) ?_; dsimp only)); refine box_event ?hg (N := 11) ?hd (cs := #[.string (⟨#[]⟩ : ByteArray), .string (⟨#[]⟩ : ByteArray), .string (⟨#[]⟩ : ByteArray)]) (t := 72) ?hr ?_; (case hd => rfl); (case hg => rfl); (case hr => first | (go_simp; done) | (go_simp; rfl)); intro gb248 hg w79 hbox hb; have n0_ := Aside0.mk (Kd.Q_below (by (with_reducible repeat (first | apply Kd.Q_alloc | apply Kd.Q_drewN | apply Kd.Q_drew)); exact HO_4.out) hb); have n1_ := Aside0.mk (Kd.R_below (Kd.R_elderB (kr HO_219000.out) gb248 (Nat.le_of_eq hg.symm)) hb); have n2_ := Aside0.mk (kb BK212.out hb); have n3_ := Aside0.mk (kb BK218.out hb); have n4_ := Aside0.mk (below_step bl hb); have n5_ := Aside0.mk (hbox); have n6_ := Aside0.mk ((by rw [hg]; exact (below_size bl) : w.heap.size ≤ gb248)); have n7_ := Aside0.mk ((by rw [hg]; exact (below_size bl) : w.heap.size ≤ gb248)); have n8_ := Aside0.mk ((by rw [hg]; exact Nat.ne_of_lt (blk_lt (bk BK212.out)) : gb212 ≠ gb248)); have n9_ := Aside0.mk ((by rw [hg]; exact Nat.ne_of_gt (blk_lt (bk BK212.out)) : gb248 ≠ gb212)); have n10_ := Aside0.mk ((by rw [hg]; exact Nat.ne_of_lt (blk_lt (bk BK218.out)) : gb218 ≠ gb248)); have n11_ := Aside0.mk ((by rw [hg]; exact Nat.ne_of_gt (blk_lt (bk BK218.out)) : gb248 ≠ gb218)); clear HO_4; clear HO_219000; clear BK212; clear BK218; clear HB; have HO_4 := n0_; have HO_219000 := n1_; have BK212 := n2_; have BK218 := n3_; have HB := n4_; have BK248 := n5_; have GW248 := n6_; have GE248 := n7_; have NB212_248 := n8_; have NB248_212 := n9_; have NB218_248 := n10_; have NB248_218 := n11_; clear n0_ n1_ n2_ n3_ n4_ n5_ n6_ n7_ n8_ n9_ n10_ n11_; clear hb hbox hg; have q80 : (x10_4 : Int) ≤ ((x4_2.length : Int) : Int) := od; obtain ⟨i080, hi080, _, hsz80, _⟩ := info_parts info9; have hroom80 : x4_2.length ≤ co78 := (Kd.Q_reads' HO_4.out).2.1; have hC80 : Kd.C Kd.string _ Ao78 x4_2.length x4_2 := (Kd.Q_reads' HO_4.out).2.2; have hcut80 := cut_to (P := Tryz.prog) 84 9 .i64 Tryz.underlying84 hi080 Ao78 x4_2.length co78 x10_4 (od) q80 hroom80; have hr80 := Kd.C_take (m := (x10_4 : Int).toNat) hC80 (by omega); have hy80 : y249.length = (x10_4 : Int).toNat := (by rw [Ny249.out, List.length_take]; omega); rw [← Ny249.out] at hr80; rw [← hy80] at hcut80; have HR252 := Aside0.mk hr80; have HC252 := Aside0.mk (show y249.length ≤ co78 from by omega); clear hr80 hC80 hroom80 hi080 hsz80; have KY80 := Aside0.mk hy80; clear hy80; have KL80 := Aside0.mk (show (x10_4 : Int).toNat ≤ x4_2.length from by omega); replace q80 := eq_true q80) | ((with_reducible refine gate_callee (f := 50) rfl ?_); refine goesL_ (some 71) rfl rfl Tryz.func50 (by kernel_rfl) rfl #[.slice Ao78 y249.length co78] rfl ml ?_; (with_reducible refine (head_field.calls k4 _ _ y249 t253 t254 t255 true _ ?side1 ?side2 ?side3 A74.out).mono ?_); (case side1 => repeat (first | exact (by repeat (first | (with_reducible exact HR252.out) | (with_reducible refine Kd.C_alloc ?_ _) | (with_reducible refine Kd.C_drewN ?_ _) | (with_reducible refine Kd.C_drew ?_) | exact HR252.out)) | (with_reducible refine Kd.C_alloc ?_ _) | (with_reducible refine Kd.C_drewN ?_ _) | (with_reducible refine Kd.C_drew ?_))); (case side2 => exact HC252.out); (case side3 => exact Glob.below HG.out bl); rintro e w81 ⟨rfl, hb⟩; refine ⟨_, rfl, ?_⟩; have n0_ := Aside0.mk (Kd.Q_below (by (with_reducible repeat (first | apply Kd.Q_alloc | apply Kd.Q_drewN | apply Kd.Q_drew)); exact HO_4.out) hb); have n1_ := Aside0.mk (Kd.R_below (kr HO_219000.out) hb); have n2_ := Aside0.mk (kb BK212.out hb); have n3_ := Aside0.mk (kb BK218.out hb); have n4_ := Aside0.mk (kb BK248.out hb); have n5_ := Aside0.mk (Kd.C_below (by repeat (first | (with_reducible exact HR252.out) | (with_reducible refine Kd.C_alloc ?_ _) | (with_reducible refine Kd.C_drewN ?_ _) | (with_reducible refine Kd.C_drew ?_) | exact HR252.out)) hb); have n6_ := Aside0.mk (below_step bl hb); clear HO_4; clear HO_219000; clear BK212; clear BK218; clear BK248; clear HR252; clear HB; have HO_4 := n0_; have HO_219000 := n1_; have BK212 := n2_; have BK218 := n3_; have BK248 := n4_; have HR252 := n5_; have HB := n6_; clear n0_ n1_ n2_ n3_ n4_ n5_ n6_; (try clear hb); (try clear hb2); (try clear hk); (try clear hi); have hnb82 := NB248_212.out; have hnc82 := NB212_248.out; have hnb83 := NB248_218.out; have hnc83 := NB218_248.out; have hcz84_0 : w81.cell? ⟨gb248, 0, none⟩ = some (.string (⟨#[]⟩ : ByteArray)) := (blk_cell BK248.out 0).trans rfl; have hcz84_1 : w81.cell? ⟨gb248, 1, none⟩ = some (.string (⟨#[]⟩ : ByteArray)) := (blk_cell BK248.out 1).trans rfl; have hcz84_2 : w81.cell? ⟨gb248, 2, none⟩ = some (.string (⟨#[]⟩ : ByteArray)) := (blk_cell BK248.out 2).trans rfl; have hfz84_0 := blk_frozen BK248.out 0; have hfz84_1 := blk_frozen BK248.out 1; have hfz84_2 := blk_frozen BK248.out 2; have hnb85 := NB218_212.out; have hnc85 := NB212_218.out; have hcz86_0 : w81.cell? ⟨gb218, 0, none⟩ = some (u219000) := (blk_cell BK218.out 0).trans rfl; have hcz86_1 : w81.cell? ⟨gb218, 1, none⟩ = some (.string x219001_7) := (blk_cell BK218.out 1).trans rfl; have hcz86_2 : w81.cell? ⟨gb218, 2, none⟩ = some (.bool (decide (t217 < 0))) := (blk_cell BK218.out 2).trans rfl; have hfz86_0 := blk_frozen BK218.out 0; have hfz86_1 := blk_frozen BK218.out 1; have hfz86_2 := blk_frozen BK218.out 2) | ((with_reducible refine gate_builtin (b := .append) (xs := #[.tmp 76, .tmp 78]) rfl ?_); (try (refine gate_guard (by rfl) ?_; dsimp only)); at_builtin; refine Kd.R_append k72 (w0 := w) w.heap.size rfl (.tmp 76) (.tmp 78) 22 72 (.agg #[(.string ⟨#[]⟩), (.string ⟨#[]⟩), (.string ⟨#[]⟩)]) 48 rfl Tryz.underlying22 info72 rfl (by decide) (by omega) u219000 x219000_2 (⟨t253, t254, t255⟩ : S72) [.string t253, .string t254, .string t255] (fun k_ => k_ ≠ gb248) (fun _ => False) rfl (by first | (go_simp; done) | (go_simp; rfl)) ?aP (fun _ hk => hk.elim) ?aF ?aO ?aB ?aS ?aL ?_; (case aP => exact k72_mkM _ _ _ (⟨t253, t254, t255⟩ : S72)); (case aB => exact bl); (case aF => exact (fun k_ hk => Kd.freshB (g := gb248) (o := .cells #[.string t253, .string t254, .string t255] 72 (0, 0)) (by (with_reducible repeat (first | refine blk_drewN ?_ _ | refine blk_drew ?_ | refine blk_alloc ?_ _)); refine blk_put (cs := #[.string t253, .string t254, .string (⟨#[]⟩ : ByteArray)]) ?_ 2 _ rfl; (with_reducible repeat (first | refine blk_drewN ?_ _ | refine blk_drew ?_ | refine blk_alloc ?_ _)); refine blk_put (cs := #[.string t253, .string (⟨#[]⟩ : ByteArray), .string (⟨#[]⟩ : ByteArray)]) ?_ 1 _ rfl; (with_reducible repeat (first | refine blk_drewN ?_ _ | refine blk_drew ?_ | refine blk_alloc ?_ _)); refine blk_put (cs := #[.string (⟨#[]⟩ : ByteArray), .string (⟨#[]⟩ : ByteArray), .string (⟨#[]⟩ : ByteArray)]) ?_ 0 _ rfl; (with_reducible repeat (first | refine blk_drewN ?_ _ | refine blk_drew ?_ | refine blk_alloc ?_ _)); exact BK248.out) k_ hk)); (case aO => exact (by (with_reducible repeat (first | apply Kd.R_alloc | apply Kd.R_drewN | apply Kd.R_drew)); exact Kd.R_mono (Kd.R_far (p := ⟨gb248, 2, none⟩) (Kd.R_far (p := ⟨gb248, 1, none⟩) (Kd.R_far (p := ⟨gb248, 0, none⟩) (Kd.R_mono HO_219000.out (fun k_ hk => (⟨hk, hk.2⟩ : _ ∧ k_ ≠ gb248))) (fun _ hk => hk.2) (.string t253)) (fun _ hk => hk.2) (.string t254)) (fun _ hk => hk.2) (.string t255)) (fun _ hk => hk.1.2))); (case aS => exact (below_size bl)); (case aL => have := LMc76.out; omega); intro v258 w87 ho hb hg hat; rw [← Ny257.out] at ho; have n0_ := Aside0.mk (Kd.Q_over' (by (with_reducible repeat (first | apply Kd.Q_alloc | apply Kd.Q_drewN | apply Kd.Q_drew)); exact (Kd.Q_mono (Kd.Q_far (p := ⟨gb248, 2, none⟩) (Kd.Q_far (p := ⟨gb248, 1, none⟩) (Kd.Q_far (p := ⟨gb248, 0, none⟩) (Kd.Q_types HO_4.out BK248.out (by decide)) (fun _ hk => hk.2) (.string t253)) (fun _ hk => hk.2) (.string t254)) (fun _ hk => hk.2) (.string t255)) (fun _ h_ => h_.1))) (Kd.R_typed (by (with_reducible repeat (first | apply Kd.R_alloc | apply Kd.R_drewN | apply Kd.R_drew)); exact (Kd.R_mono (Kd.R_far (p := ⟨gb248, 2, none⟩) (Kd.R_far (p := ⟨gb248, 1, none⟩) (Kd.R_far (p := ⟨gb248, 0, none⟩) (Kd.R_mono HO_219000.out (fun k_ hk => (⟨hk, hk.2⟩ : _ ∧ k_ ≠ gb248))) (fun _ hk => hk.2) (.string t253)) (fun _ hk => hk.2) (.string t254)) (fun _ hk => hk.2) (.string t255)) (fun _ h_ => h_.1)))) (by decide) hg); have n1_ := Aside0.mk (blk_grown (g := gb212) (o := .cells #[.slice none 0 0, .string (⟨#[]⟩ : ByteArray), .bool false] 24 (0, 0)) (bk BK212.out) hg (Kd.R_ne HO_219000.out BK212.out (by decide))); have n2_ := Aside0.mk (blk_grown (g := gb218) (o := .cells #[u219000, .string x219001_7, .bool (decide (t217 < 0))] 24 (0, 0)) (bk BK218.out) hg (Kd.R_ne HO_219000.out BK218.out (by decide))); have n3_ := Aside0.mk (blk_grown (g := gb248) (o := .cells #[.string t253, .string t254, .string t255] 72 (0, 0)) (by (with_reducible repeat (first | refine blk_drewN ?_ _ | refine blk_drew ?_ | refine blk_alloc ?_ _)); refine blk_put (cs := #[.string t253, .string t254, .string (⟨#[]⟩ : ByteArray)]) ?_ 2 _ rfl; (with_reducible repeat (first | refine blk_drewN ?_ _ | refine blk_drew ?_ | refine blk_alloc ?_ _)); refine blk_put (cs := #[.string t253, .string (⟨#[]⟩ : ByteArray), .string (⟨#[]⟩ : ByteArray)]) ?_ 1 _ rfl; (with_reducible repeat (first | refine blk_drewN ?_ _ | refine blk_drew ?_ | refine blk_alloc ?_ _)); refine blk_put (cs := #[.string (⟨#[]⟩ : ByteArray), .string (⟨#[]⟩ : ByteArray), .string (⟨#[]⟩ : ByteArray)]) ?_ 0 _ rfl; (with_reducible repeat (first | refine blk_drewN ?_ _ | refine blk_drew ?_ | refine blk_alloc ?_ _)); exact BK248.out) hg (Kd.R_away HO_219000.out (fun _ hk => hk.2))); have n4_ := Aside0.mk (hb); have n5_ := Aside0.mk ((show Kd.C Kd.string w87 Ao78 y249.length y249 from by rw [Ny249.out]; exact Kd.C_take (m := (x10_4 : Int).toNat) ((Kd.Q_reads' (Kd.Q_over' (by (with_reducible repeat (first | apply Kd.Q_alloc | apply Kd.Q_drewN | apply Kd.Q_drew)); exact (Kd.Q_mono (Kd.Q_far (p := ⟨gb248, 2, none⟩) (Kd.Q_far (p := ⟨gb248, 1, none⟩) (Kd.Q_far (p := ⟨gb248, 0, none⟩) (Kd.Q_types HO_4.out BK248.out (by decide)) (fun _ hk => hk.2) (.string t253)) (fun _ hk => hk.2) (.string t254)) (fun _ hk => hk.2) (.string t255)) (fun _ h_ => h_.1))) (Kd.R_typed (by (with_reducible repeat (first | apply Kd.R_alloc | apply Kd.R_drewN | apply Kd.R_drew)); exact (Kd.R_mono (Kd.R_far (p := ⟨gb248, 2, none⟩) (Kd.R_far (p := ⟨gb248, 1, none⟩) (Kd.R_far (p := ⟨gb248, 0, none⟩) (Kd.R_mono HO_219000.out (fun k_ hk => (⟨hk, hk.2⟩ : _ ∧ k_ ≠ gb248))) (fun _ hk => hk.2) (.string t253)) (fun _ hk => hk.2) (.string t254)) (fun _ hk => hk.2) (.string t255)) (fun _ h_ => h_.1)))) (by decide) hg)).2.2) KL80.out)); have n6_ := Aside0.mk (ho); clear HO_4; clear BK212; clear BK218; clear BK248; clear HB; clear HR252; clear HO_219000; have HO_4 := n0_; have BK212 := n1_; have BK218 := n2_; have BK248 := n3_; have HB := n4_; have HR252 := n5_; have HO259 := n6_; clear n0_ n1_ n2_ n3_ n4_ n5_ n6_; clear ho hb hg hat; obtain ⟨Ao88, co88, eo88⟩ := Kd.R_slice HO259.out; subst eo88; have hcz89_0 : w87.cell? ⟨gb218, 0, none⟩ = some (u219000) := (blk_cell BK218.out 0).trans rfl; have hcz89_1 : w87.cell? ⟨gb218, 1, none⟩ = some (.string x219001_7) := (blk_cell BK218.out 1).trans rfl; have hcz89_2 : w87.cell? ⟨gb218, 2, none⟩ = some (.bool (decide (t217 < 0))) := (blk_cell BK218.out 2).trans rfl; have hfz89_0 := blk_frozen BK218.out 0; have hfz89_1 := blk_frozen BK218.out 1; have hfz89_2 := blk_frozen BK218.out 2) | ((with_reducible refine gate_store (t := 22) (p := 80) rfl ?_); refine store_event (t := 22) (p := 80) (v := ?vo_w90) (w1 := (w87.setCell ⟨gb218, 0, none⟩ (.slice Ao88 y257.length co88))) ?hg ?ho ?hn ?hr ?_; (case ho => rfl); (case hg => rfl); (case hn => rfl); (case hr => first | (go_simp; done) | (go_simp; rfl)); intro w90 hw; have n0_ : Aside0 (Kd.Q Kd.string 9 w90 w.heap.size (fun _ => True) (.slice Ao78 x4_2.length co78) x4_2) := ⟨(by rw [hw]; exact (by (with_reducible repeat (first | apply Kd.Q_alloc | apply Kd.Q_drewN | apply Kd.Q_drew)); exact Kd.Q_mono (Kd.Q_far (p := ⟨gb218, 0, none⟩) (Kd.Q_types HO_4.out BK218.out (by decide)) (fun _ hk => hk.2) (.slice Ao88 y257.length co88)) (fun _ hk => trivial)))⟩; have n1_ : Aside0 (Kd.R k72 72 w90 w.heap.size (fun k_ => k_ ≠ gb248) (.slice Ao88 y257.length co88) y257) := ⟨(by rw [hw]; exact (by (with_reducible repeat (first | apply Kd.R_alloc | apply Kd.R_drewN | apply Kd.R_drew)); exact Kd.R_mono (Kd.R_far (p := ⟨gb218, 0, none⟩) (Kd.R_types HO259.out BK218.out (by decide)) (fun _ hk => hk.2) (.slice Ao88 y257.length co88)) (fun _ hk => hk.1)))⟩; have n2_ : Aside0 (w90.heap[gb212]? = some (.cells #[.slice none 0 0, .string (⟨#[]⟩ : ByteArray), .bool false] 24 (0, 0))) := ⟨(by rw [hw]; exact (bk BK212.out))⟩; have n3_ : Aside0 (w90.heap[gb218]? = some (.cells #[.slice Ao88 y257.length co88, .string x219001_7, .bool (decide (t217 < 0))] 24 (0, 0))) := ⟨(by rw [hw]; exact (by (with_reducible repeat (first | refine blk_drewN ?_ _ | refine blk_drew ?_ | refine blk_alloc ?_ _)); refine blk_put (cs := #[u219000, .string x219001_7, .bool (decide (t217 < 0))]) ?_ 0 _ rfl; (with_reducible repeat (first | refine blk_drewN ?_ _ | refine blk_drew ?_ | refine blk_alloc ?_ _)); exact BK218.out))⟩; have n4_ : Aside0 (w90.heap[gb248]? = some (.cells #[.string t253, .string t254, .string t255] 72 (0, 0))) := ⟨(by rw [hw]; exact (bk BK248.out))⟩; have n5_ : Aside0 (Below w.heap.size w w90) := ⟨(by rw [hw]; exact bl)⟩; clear hw; clear HO_4; clear HO259; clear BK212; clear BK218; clear BK248; clear HB; have HO_4 := n0_; have HO259 := n1_; have BK212 := n2_; have BK218 := n3_; have BK248 := n4_; have HB := n5_; clear n0_ n1_ n2_ n3_ n4_ n5_; have q91 : (x10_4 : Int) ≤ ((x4_2.length : Int) : Int) := od; obtain ⟨i091, hi091, _, hsz91, _⟩ := info_parts info9; have hcut91 := cut_from (P := Tryz.prog) 84 9 .i64 Tryz.underlying84 hi091 1 hsz91 Ao78 x4_2.length co78 x10_4 (od) q91; have hr91 := Kd.Q_drop (k := (x10_4 : Int).toNat) HO_4.out (by omega); obtain ⟨A91, hA91⟩ : ∃ A1, A1 = (if co78 = (x10_4 : Int).toNat then Ao78 else (Ao78 : Option Addr).map (·.add ((x10_4 : Int).toNat * 1))) := ⟨_, rfl⟩; obtain ⟨c91, hc91⟩ : ∃ c1, c1 = co78 - (x10_4 : Int).toNat := ⟨_, rfl⟩; have hy91 : y260.length = x4_2.length - (x10_4 : Int).toNat := (by rw [Ny260.out, List.length_drop]); rw [← Ny260.out] at hr91; rw [← hy91, ← hA91, ← hc91] at hcut91; replace hr91 : Kd.Q Kd.string 9 w90 w.heap.size (fun _ => True) (.slice A91 y260.length c91) y260 := (by rw [hA91, hc91, hy91]; exact hr91); have HE91 : Aside0 ((Value.slice A91 y260.length c91).ownBlock = (.slice Ao78 x4_2.length co78 : Value).ownBlock) := ⟨by rw [hA91]; split <;> (cases (Ao78 : Option Addr) <;> first | rfl | (simp only [Option.map_some, Value.ownBlock, add_block]; done))⟩; clear hy91 hi091 hsz91 HO_4 hA91 hc91; have HO262 := Aside0.mk hr91; clear hr91; replace q91 := eq_true q91))
                go_roundg k4
                case measure => have := HJ7.out; have := HK2.out; have := HJ32.out; have := HK4.out; omega
                case rel => exact ⟨(y260), (true), (y257), (.slice Ao88 y257.length co88), (by first | rfl | (simp; done) | (simp [*]; done)), H', ⟨by have := HJ7.out; have := HK2.out; have := HJ32.out; have := HK4.out; omega⟩, ⟨by (with_reducible repeat (first | apply Kd.Q_alloc | apply Kd.Q_drewN | apply Kd.Q_drew)); exact HO262.out⟩, ⟨by (with_reducible repeat (first | apply Kd.R_alloc | apply Kd.R_drewN | apply Kd.R_drew)); exact Kd.R_mono HO259.out (fun _ hk => trivial)⟩, ⟨by (with_reducible repeat (first | refine blk_drewN ?_ _ | refine blk_drew ?_ | refine blk_alloc ?_ _)); exact BK212.out⟩, ⟨by (with_reducible repeat (first | refine blk_drewN ?_ _ | refine blk_drew ?_ | refine blk_alloc ?_ _)); exact BK218.out⟩, ⟨by repeat (first | (with_reducible first | exact HB.out | apply below_alloc | apply pw_below_drewN | apply below_drew1 | refine below_set ?_ GE212.out | refine below_set ?_ GE218.out | refine below_set ?_ GE248.out) | exact HB.out)⟩⟩
               ·rw [if_neg c76] at H
                exact absurd H (by simp)
              ·replace c75 := Bool.eq_false_iff.mpr c75
               subst c75
               have H1 : (head_Parse.l1 k4 (x4_2.drop (x10_4 : Int).toNat) false x219000_2 x219001_7 (decide (t217 < 0))) = some (r1, r2, r3, r4) := by rw [if_neg (show ¬ (false = true) by decide)] at H; exact H
               clear H
               have H := H1
               clear H1
               have c92b0 := eq_true (od : x10_4 ≤ (x4_2.length : Int))
               obtain ⟨y263, hy263⟩ : ∃ y_ : List ByteArray, y_ = (x4_2.drop (x10_4 : Int).toNat) := ⟨_, rfl⟩
               replace H : (head_Parse.l1 k4 y263 false x219000_2 x219001_7 (decide (t217 < 0))) = some (r1, r2, r3, r4) := by first | (rw [hy263]; with_reducible exact H) | (have H2_ := (Option.bind_some _ _).symm.trans H; rw [hy263]; with_reducible exact H2_) | (have H2_ := (Option.bind_some _ _).symm.trans H; with_reducible exact H2_) | with_reducible exact H | (rw [hy263]; exact H) | exact H
               have Ny263 := Aside0.mk hy263
               clear hy263
               have H' := Aside0.mk H
               clear H
               obtain ⟨Ao93, co93, eo93, _⟩ := Kd.Q_slice HO_4.out
               subst eo93
               go_wp2_with (first | ((with_reducible refine gate_dst (N := 11) rfl ?_); (try (refine gate_guard (by rfl) ?_; dsimp only)); refine box_event ?hg (N := 11) ?hd (cs := #[.string (⟨#[]⟩ : ByteArray), .string (⟨#[]⟩ : ByteArray), .string (⟨#[]⟩ : ByteArray)]) (t := 72) ?hr ?_; (case hd => rfl); (case hg => rfl); (case hr => first | (go_simp; done) | (go_simp; rfl)); intro gb248 hg w94 hbox hb; have n0_ := Aside0.mk (Kd.Q_below (by (with_reducible repeat (first | apply Kd.Q_alloc | apply Kd.Q_drewN | apply Kd.Q_drew)); exact HO_4.out) hb); have n1_ := Aside0.mk (Kd.R_below (Kd.R_elderB (kr HO_219000.out) gb248 (Nat.le_of_eq hg.symm)) hb); have n2_ := Aside0.mk (kb BK212.out hb); have n3_ := Aside0.mk (kb BK218.out hb); have n4_ := Aside0.mk (below_step bl hb); have n5_ := Aside0.mk (hbox); have n6_ := Aside0.mk ((by rw [hg]; exact (below_size bl) : w.heap.size ≤ gb248)); have n7_ := Aside0.mk ((by rw [hg]; exact (below_size bl) : w.heap.size ≤ gb248)); have n8_ := Aside0.mk ((by rw [hg]; exact Nat.ne_of_lt (blk_lt (bk BK212.out)) : gb212 ≠ gb248)); have n9_ := Aside0.mk ((by rw [hg]; exact Nat.ne_of_gt (blk_lt (bk BK212.out)) : gb248 ≠ gb212)); have n10_ := Aside0.mk ((by rw [hg]; exact Nat.ne_of_lt (blk_lt (bk BK218.out)) : gb218 ≠ gb248)); have n11_ := Aside0.mk ((by rw [hg]; exact Nat.ne_of_gt (blk_lt (bk BK218.out)) : gb248 ≠ gb218)); clear HO_4; clear HO_219000; clear BK212; clear BK218; clear HB; have HO_4 := n0_; have HO_219000 := n1_; have BK212 := n2_; have BK218 := n3_; have HB := n4_; have BK248 := n5_; have GW248 := n6_; have GE248 := n7_; have NB212_248 := n8_; have NB248_212 := n9_; have NB218_248 := n10_; have NB248_218 := n11_; clear n0_ n1_ n2_ n3_ n4_ n5_ n6_ n7_ n8_ n9_ n10_ n11_; clear hb hbox hg; have q95 : (x10_4 : Int) ≤ ((x4_2.length : Int) : Int) := od; obtain ⟨i095, hi095, _, hsz95, _⟩ := info_parts info9; have hroom95 : x4_2.length ≤ co93 := (Kd.Q_reads' HO_4.out).2.1; have hC95 : Kd.C Kd.string _ Ao93 x4_2.length x4_2 := (Kd.Q_reads' HO_4.out).2.2; have hcut95 := cut_to (P := Tryz.prog) 84 9 .i64 Tryz.underlying84 hi095 Ao93 x4_2.length co93 x10_4 (od) q95 hroom95; have hr95 := Kd.C_take (m := (x10_4 : Int).toNat) hC95 (by omega); have hy95 : y249.length = (x10_4 : Int).toNat := (by rw [Ny249.out, List.length_take]; omega); rw [← Ny249.out] at hr95; rw [← hy95] at hcut95; have HR252 := Aside0.mk hr95; have HC252 := Aside0.mk (show y249.length ≤ co93 from by omega); clear hr95 hC95 hroom95 hi095 hsz95; have KY95 := Aside0.mk hy95; clear hy95; have KL95 := Aside0.mk (show (x10_4 : Int).toNat ≤ x4_2.length from by omega); replace q95 := eq_true q95) | ((with_reducible refine gate_callee (f := 50) rfl ?_); refine goesL_ (some 71) rfl rfl Tryz.func50 (by kernel_rfl) rfl #[.slice Ao93 y249.length co93] rfl ml ?_; (with_reducible refine (head_field.calls k4 _ _ y249 t253 t254 t255 false _ ?side1 ?side2 ?side3 A74.out).mono ?_); (case side1 => repeat (first | exact (by repeat (first | (with_reducible exact HR252.out) | (with_reducible refine Kd.C_alloc ?_ _) | (with_reducible refine Kd.C_drewN ?_ _) | (with_reducible refine Kd.C_drew ?_) | exact HR252.out)) | (with_reducible refine Kd.C_alloc ?_ _) | (with_reducible refine Kd.C_drewN ?_ _) | (with_reducible refine Kd.C_drew ?_))); (case side2 => exact HC252.out); (case side3 => exact Glob.below HG.out bl); rintro e w96 ⟨rfl, hb⟩; refine ⟨_, rfl, ?_⟩; have n0_ := Aside0.mk (Kd.Q_below (by (with_reducible repeat (first | apply Kd.Q_alloc | apply Kd.Q_drewN | apply Kd.Q_drew)); exact HO_4.out) hb); have n1_ := Aside0.mk (Kd.R_below (kr HO_219000.out) hb); have n2_ := Aside0.mk (kb BK212.out hb); have n3_ := Aside0.mk (kb BK218.out hb); have n4_ := Aside0.mk (kb BK248.out hb); have n5_ := Aside0.mk (Kd.C_below (by repeat (first | (with_reducible exact HR252.out) | (with_reducible refine Kd.C_alloc ?_ _) | (with_reducible refine Kd.C_drewN ?_ _) | (with_reducible refine Kd.C_drew ?_) | exact HR252.out)) hb); have n6_ := Aside0.mk (below_step bl hb); clear HO_4; clear HO_219000; clear BK212; clear BK218; clear BK248; clear HR252; clear HB; have HO_4 := n0_; have HO_219000 := n1_; have BK212 := n2_; have BK218 := n3_; have BK248 := n4_; have HR252 := n5_; have HB := n6_; clear n0_ n1_ n2_ n3_ n4_ n5_ n6_; (try clear hb); (try clear hb2); (try clear hk); (try clear hi); have hnb97 := NB248_212.out; have hnc97 := NB212_248.out; have hnb98 := NB248_218.out; have hnc98 := NB218_248.out; have hcz99_0 : w96.cell? ⟨gb248, 0, none⟩ = some (.string (⟨#[]⟩ : ByteArray)) := (blk_cell BK248.out 0).trans rfl; have hcz99_1 : w96.cell? ⟨gb248, 1, none⟩ = some (.string (⟨#[]⟩ : ByteArray)) := (blk_cell BK248.out 1).trans rfl; have hcz99_2 : w96.cell? ⟨gb248, 2, none⟩ = some (.string (⟨#[]⟩ : ByteArray)) := (blk_cell BK248.out 2).trans rfl; have hfz99_0 := blk_frozen BK248.out 0; have hfz99_1 := blk_frozen BK248.out 1; have hfz99_2 := blk_frozen BK248.out 2) | ((with_reducible refine gate_store (t := 72) (p := 11) rfl ?_); refine store_event (t := 72) (p := 11) (v := ?vo_w100) (w1 := (((w96.setCell ⟨gb248, 0, none⟩ (.string t253)).setCell ⟨gb248, 1, none⟩ (.string t254)).setCell ⟨gb248, 2, none⟩ (.string t255))) ?hg ?ho ?hn ?hr ?_; (case ho => rfl); (case hg => rfl); (case hn => rfl); (case hr => first | (go_simp; done) | (go_simp; rfl)); intro w100 hw; have n0_ : Aside0 (Kd.Q Kd.string 9 w100 w.heap.size (fun _ => True) (.slice Ao93 x4_2.length co93) x4_2) := ⟨(by rw [hw]; exact (by (with_reducible repeat (first | apply Kd.Q_alloc | apply Kd.Q_drewN | apply Kd.Q_drew)); exact Kd.Q_mono (Kd.Q_far (p := ⟨gb248, 2, none⟩) (Kd.Q_far (p := ⟨gb248, 1, none⟩) (Kd.Q_far (p := ⟨gb248, 0, none⟩) (Kd.Q_types HO_4.out BK248.out (by decide)) (fun _ hk => hk.2) (.string t253)) (fun _ hk => hk.2) (.string t254)) (fun _ hk => hk.2) (.string t255)) (fun _ hk => trivial)))⟩; have n1_ : Aside0 (Kd.R k72 72 w100 w.heap.size (fun k_ => k_ ≠ gb248) u219000 x219000_2) := ⟨(by rw [hw]; exact (by (with_reducible repeat (first | apply Kd.R_alloc | apply Kd.R_drewN | apply Kd.R_drew)); exact Kd.R_mono (Kd.R_far (p := ⟨gb248, 2, none⟩) (Kd.R_far (p := ⟨gb248, 1, none⟩) (Kd.R_far (p := ⟨gb248, 0, none⟩) (Kd.R_mono HO_219000.out (fun k_ hk => (⟨hk, hk.2⟩ : _ ∧ k_ ≠ gb248))) (fun _ hk => hk.2) (.string t253)) (fun _ hk => hk.2) (.string t254)) (fun _ hk => hk.2) (.string t255)) (fun _ hk => hk.1.2)))⟩; have n2_ : Aside0 (w100.heap[gb212]? = some (.cells #[.slice none 0 0, .string (⟨#[]⟩ : ByteArray), .bool false] 24 (0, 0))) := ⟨(by rw [hw]; exact (bk BK212.out))⟩; have n3_ : Aside0 (w100.heap[gb218]? = some (.cells #[u219000, .string x219001_7, .bool (decide (t217 < 0))] 24 (0, 0))) := ⟨(by rw [hw]; exact (bk BK218.out))⟩; have n4_ : Aside0 (w100.heap[gb248]? = some (.cells #[.string t253, .string t254, .string t255] 72 (0, 0))) := ⟨(by rw [hw]; exact (by (with_reducible repeat (first | refine blk_drewN ?_ _ | refine blk_drew ?_ | refine blk_alloc ?_ _)); refine blk_put (cs := #[.string t253, .string t254, .string (⟨#[]⟩ : ByteArray)]) ?_ 2 _ rfl; (with_reducible repeat (first | refine blk_drewN ?_ _ | refine blk_drew ?_ | refine blk_alloc ?_ _)); refine blk_put (cs := #[.string t253, .string (⟨#[]⟩ : ByteArray), .string (⟨#[]⟩ : ByteArray)]) ?_ 1 _ rfl; (with_reducible repeat (first | refine blk_drewN ?_ _ | refine blk_drew ?_ | refine blk_alloc ?_ _)); refine blk_put (cs := #[.string (⟨#[]⟩ : ByteArray), .string (⟨#[]⟩ : ByteArray), .string (⟨#[]⟩ : ByteArray)]) ?_ 0 _ rfl; (with_reducible repeat (first | refine blk_drewN ?_ _ | refine blk_drew ?_ | refine blk_alloc ?_ _)); exact BK248.out))⟩; have n5_ : Aside0 (Below w.heap.size w w100) := ⟨(by rw [hw]; exact bl)⟩; clear hw; clear HO_4; clear HO_219000; clear BK212; clear BK218; clear BK248; clear HB; have HO_4 := n0_; have HO_219000 := n1_; have BK212 := n2_; have BK218 := n3_; have BK248 := n4_; have HB := n5_; clear n0_ n1_ n2_ n3_ n4_ n5_; have q101 : (x10_4 : Int) ≤ ((x4_2.length : Int) : Int) := od; obtain ⟨i0101, hi0101, _, hsz101, _⟩ := info_parts info9; have hcut101 := cut_from (P := Tryz.prog) 84 9 .i64 Tryz.underlying84 hi0101 1 hsz101 Ao93 x4_2.length co93 x10_4 (od) q101; have hr101 := Kd.Q_drop (k := (x10_4 : Int).toNat) HO_4.out (by omega); obtain ⟨A101, hA101⟩ : ∃ A1, A1 = (if co93 = (x10_4 : Int).toNat then Ao93 else (Ao93 : Option Addr).map (·.add ((x10_4 : Int).toNat * 1))) := ⟨_, rfl⟩; obtain ⟨c101, hc101⟩ : ∃ c1, c1 = co93 - (x10_4 : Int).toNat := ⟨_, rfl⟩; have hy101 : y263.length = x4_2.length - (x10_4 : Int).toNat := (by rw [Ny263.out, List.length_drop]); rw [← Ny263.out] at hr101; rw [← hy101, ← hA101, ← hc101] at hcut101; replace hr101 : Kd.Q Kd.string 9 w100 w.heap.size (fun _ => True) (.slice A101 y263.length c101) y263 := (by rw [hA101, hc101, hy101]; exact hr101); have HE101 : Aside0 ((Value.slice A101 y263.length c101).ownBlock = (.slice Ao93 x4_2.length co93 : Value).ownBlock) := ⟨by rw [hA101]; split <;> (cases (Ao93 : Option Addr) <;> first | rfl | (simp only [Option.map_some, Value.ownBlock, add_block]; done))⟩; clear hy101 hi0101 hsz101 HO_4 hA101 hc101; have HO265 := Aside0.mk hr101; clear hr101; replace q101 := eq_true q101))
               go_roundg k4
               case measure => have := HJ7.out; have := HK2.out; have := HJ32.out; have := HK4.out; omega
               case rel => exact ⟨(y263), (false), (x219000_2), (u219000), (by first | rfl | (simp; done) | (simp [*]; done)), H', ⟨by have := HJ7.out; have := HK2.out; have := HJ32.out; have := HK4.out; omega⟩, ⟨by (with_reducible repeat (first | apply Kd.Q_alloc | apply Kd.Q_drewN | apply Kd.Q_drew)); exact HO265.out⟩, ⟨by (with_reducible repeat (first | apply Kd.R_alloc | apply Kd.R_drewN | apply Kd.R_drew)); exact Kd.R_mono HO_219000.out (fun _ hk => trivial)⟩, ⟨by (with_reducible repeat (first | refine blk_drewN ?_ _ | refine blk_drew ?_ | refine blk_alloc ?_ _)); exact BK212.out⟩, ⟨by (with_reducible repeat (first | refine blk_drewN ?_ _ | refine blk_drew ?_ | refine blk_alloc ?_ _)); exact BK218.out⟩, ⟨by repeat (first | (with_reducible first | exact HB.out | apply below_alloc | apply pw_below_drewN | apply below_drew1 | refine below_set ?_ GE212.out | refine below_set ?_ GE218.out | refine below_set ?_ GE248.out) | exact HB.out)⟩⟩
             ·rw [if_neg c73] at H
              exact absurd H (by simp)
            ·rw [if_neg c72] at H
             exact absurd H (by simp)
        ·replace c36 := Bool.eq_false_iff.mpr c36
         subst c36
         have H1 : (if x5_2 = true then (some (x219000_2, x219001_7, (decide (t217 < 0)), 0)) else (some (([] : List (S72)), (⟨#[]⟩ : ByteArray), false, 5))) = some (r1, r2, r3, r4) := by rw [if_neg (show ¬ (false = true) by decide)] at H; exact H
         clear H
         have H := H1
         clear H1
         by_cases c102 : x5_2 = true
         ·subst c102
          have H1 : (some (x219000_2, x219001_7, (decide (t217 < 0)), 0)) = some (r1, r2, r3, r4) := by rw [if_pos rfl] at H; exact H
          clear H
          have H := H1
          clear H1
          simp only [Option.some.injEq, Prod.mk.injEq] at H
          obtain ⟨rfl, rfl, rfl, rfl⟩ := H
          have hnb103 := NB218_212.out
          have hnc103 := NB212_218.out
          have hcz104_0 : wc.cell? ⟨gb218, 0, none⟩ = some (u219000) := (blk_cell BK218.out 0).trans rfl
          have hcz104_1 : wc.cell? ⟨gb218, 1, none⟩ = some (.string x219001_7) := (blk_cell BK218.out 1).trans rfl
          have hcz104_2 : wc.cell? ⟨gb218, 2, none⟩ = some (.bool (decide (t217 < 0))) := (blk_cell BK218.out 2).trans rfl
          have hfz104_0 := blk_frozen BK218.out 0
          have hfz104_1 := blk_frozen BK218.out 1
          have hfz104_2 := blk_frozen BK218.out 2
          obtain ⟨Ao105, co105, eo105⟩ := Kd.R_slice HO_219000.out
          subst eo105
          have hcz106_0 : wc.cell? ⟨gb212, 0, none⟩ = some (.slice none 0 0) := (blk_cell BK212.out 0).trans rfl
          have hcz106_1 : wc.cell? ⟨gb212, 1, none⟩ = some (.string (⟨#[]⟩ : ByteArray)) := (blk_cell BK212.out 1).trans rfl
          have hcz106_2 : wc.cell? ⟨gb212, 2, none⟩ = some (.bool false) := (blk_cell BK212.out 2).trans rfl
          have hfz106_0 := blk_frozen BK212.out 0
          have hfz106_1 := blk_frozen BK212.out 1
          have hfz106_2 := blk_frozen BK212.out 2
          go_wp2_with (first | ((with_reducible refine gate_store (t := 24) (p := 2) rfl ?_); refine store_event (t := 24) (p := 2) (v := ?vo_w107) (w1 := (((wc.setCell ⟨gb212, 0, none⟩ (.slice Ao105 x219000_2.length co105)).setCell ⟨gb212, 1, none⟩ (.string x219001_7)).setCell ⟨gb212, 2, none⟩ (.bool (decide (t217 < 0))))) ?hg ?ho ?hn ?hr ?_; (case ho => rfl); (case hg => rfl); (case hn => rfl); (case hr => first | (go_simp; done) | (go_simp; rfl)); intro w107 hw; have n0_ : Aside0 (Kd.Q Kd.string 9 w107 w.heap.size (fun _ => True) u4 x4_2) := ⟨(by rw [hw]; exact (by (with_reducible repeat (first | apply Kd.Q_alloc | apply Kd.Q_drewN | apply Kd.Q_drew)); exact Kd.Q_mono (Kd.Q_far (p := ⟨gb212, 2, none⟩) (Kd.Q_far (p := ⟨gb212, 1, none⟩) (Kd.Q_far (p := ⟨gb212, 0, none⟩) (Kd.Q_types HO_4.out BK212.out (by decide)) (fun _ hk => hk.2) (.slice Ao105 x219000_2.length co105)) (fun _ hk => hk.2) (.string x219001_7)) (fun _ hk => hk.2) (.bool (decide (t217 < 0)))) (fun _ hk => trivial)))⟩; have n1_ : Aside0 (Kd.R k72 72 w107 w.heap.size (fun _ => True) (.slice Ao105 x219000_2.length co105) x219000_2) := ⟨(by rw [hw]; exact (by (with_reducible repeat (first | apply Kd.R_alloc | apply Kd.R_drewN | apply Kd.R_drew)); exact Kd.R_mono (Kd.R_far (p := ⟨gb212, 2, none⟩) (Kd.R_far (p := ⟨gb212, 1, none⟩) (Kd.R_far (p := ⟨gb212, 0, none⟩) (Kd.R_types HO_219000.out BK212.out (by decide)) (fun _ hk => hk.2) (.slice Ao105 x219000_2.length co105)) (fun _ hk => hk.2) (.string x219001_7)) (fun _ hk => hk.2) (.bool (decide (t217 < 0)))) (fun _ hk => trivial)))⟩; have n2_ : Aside0 (w107.heap[gb212]? = some (.cells #[.slice Ao105 x219000_2.length co105, .string x219001_7, .bool (decide (t217 < 0))] 24 (0, 0))) := ⟨(by rw [hw]; exact (by (with_reducible repeat (first | refine blk_drewN ?_ _ | refine blk_drew ?_ | refine blk_alloc ?_ _)); refine blk_put (cs := #[.slice Ao105 x219000_2.length co105, .string x219001_7, .bool false]) ?_ 2 _ rfl; (with_reducible repeat (first | refine blk_drewN ?_ _ | refine blk_drew ?_ | refine blk_alloc ?_ _)); refine blk_put (cs := #[.slice Ao105 x219000_2.length co105, .string (⟨#[]⟩ : ByteArray), .bool false]) ?_ 1 _ rfl; (with_reducible repeat (first | refine blk_drewN ?_ _ | refine blk_drew ?_ | refine blk_alloc ?_ _)); refine blk_put (cs := #[.slice none 0 0, .string (⟨#[]⟩ : ByteArray), .bool false]) ?_ 0 _ rfl; (with_reducible repeat (first | refine blk_drewN ?_ _ | refine blk_drew ?_ | refine blk_alloc ?_ _)); exact BK212.out))⟩; have n3_ : Aside0 (w107.heap[gb218]? = some (.cells #[.slice Ao105 x219000_2.length co105, .string x219001_7, .bool (decide (t217 < 0))] 24 (0, 0))) := ⟨(by rw [hw]; exact (bk BK218.out))⟩; have n4_ : Aside0 (Below w.heap.size w w107) := ⟨(by rw [hw]; exact bl)⟩; clear hw; clear HO_4; clear HO_219000; clear BK212; clear BK218; clear HB; have HO_4 := n0_; have HO_219000 := n1_; have BK212 := n2_; have BK218 := n3_; have HB := n4_; clear n0_ n1_ n2_ n3_ n4_))
          refine bodyPost_ret (results_ct rfl _ _ gb212 24 #[.slice Ao105 x219000_2.length co105, .string x219001_7, .bool (decide (t217 < 0))] (0, 0) _ rfl (bk BK212.out) Tryz.underlying24 rfl (by kernel_rfl)) rfl ?_
          exact ⟨_, by first | rfl | (simp [errW_none, errW_some] <;> rfl) | (simp [*, errW_none, errW_some] <;> rfl), by (with_reducible repeat (first | apply Kd.R_alloc | apply Kd.R_drewN | apply Kd.R_drew)); exact HO_219000.out, by repeat (first | (with_reducible first | exact HB.out | apply below_alloc | apply pw_below_drewN | apply below_drew1 | refine below_set ?_ GE212.out | refine below_set ?_ GE218.out) | exact HB.out)⟩
         ·replace c102 := Bool.eq_false_iff.mpr c102
          subst c102
          have H1 : (some (([] : List (S72)), (⟨#[]⟩ : ByteArray), false, 5)) = some (r1, r2, r3, r4) := by rw [if_neg (show ¬ (false = true) by decide)] at H; exact H
          clear H
          have H := H1
          clear H1
          simp only [Option.some.injEq, Prod.mk.injEq] at H
          obtain ⟨rfl, rfl, rfl, rfl⟩ := H
          have hnb108 := NB212_218.out
          have hnc108 := NB218_212.out
          have hcz109_0 : wc.cell? ⟨gb212, 0, none⟩ = some (.slice none 0 0) := (blk_cell BK212.out 0).trans rfl
          have hcz109_1 : wc.cell? ⟨gb212, 1, none⟩ = some (.string (⟨#[]⟩ : ByteArray)) := (blk_cell BK212.out 1).trans rfl
          have hcz109_2 : wc.cell? ⟨gb212, 2, none⟩ = some (.bool false) := (blk_cell BK212.out 2).trans rfl
          have hfz109_0 := blk_frozen BK212.out 0
          have hfz109_1 := blk_frozen BK212.out 1
          have hfz109_2 := blk_frozen BK212.out 2
          go_wp2_with (first | ((with_reducible refine gate_store (t := 24) (p := 2) rfl ?_); refine store_event (t := 24) (p := 2) (v := ?vo_w110) (w1 := (((wc.setCell ⟨gb212, 0, none⟩ (.slice none 0 0)).setCell ⟨gb212, 1, none⟩ (.string (⟨#[]⟩ : ByteArray))).setCell ⟨gb212, 2, none⟩ (.bool false))) ?hg ?ho ?hn ?hr ?_; (case ho => rfl); (case hg => rfl); (case hn => rfl); (case hr => first | (go_simp; done) | (go_simp; rfl)); intro w110 hw; have n0_ : Aside0 (Kd.Q Kd.string 9 w110 w.heap.size (fun _ => True) u4 x4_2) := ⟨(by rw [hw]; exact (by (with_reducible repeat (first | apply Kd.Q_alloc | apply Kd.Q_drewN | apply Kd.Q_drew)); exact Kd.Q_mono (Kd.Q_far (p := ⟨gb212, 2, none⟩) (Kd.Q_far (p := ⟨gb212, 1, none⟩) (Kd.Q_far (p := ⟨gb212, 0, none⟩) (Kd.Q_types HO_4.out BK212.out (by decide)) (fun _ hk => hk.2) (.slice none 0 0)) (fun _ hk => hk.2) (.string (⟨#[]⟩ : ByteArray))) (fun _ hk => hk.2) (.bool false)) (fun _ hk => trivial)))⟩; have n1_ : Aside0 (Kd.R k72 72 w110 w.heap.size (fun _ => True) u219000 x219000_2) := ⟨(by rw [hw]; exact (by (with_reducible repeat (first | apply Kd.R_alloc | apply Kd.R_drewN | apply Kd.R_drew)); exact Kd.R_mono (Kd.R_far (p := ⟨gb212, 2, none⟩) (Kd.R_far (p := ⟨gb212, 1, none⟩) (Kd.R_far (p := ⟨gb212, 0, none⟩) (Kd.R_types HO_219000.out BK212.out (by decide)) (fun _ hk => hk.2) (.slice none 0 0)) (fun _ hk => hk.2) (.string (⟨#[]⟩ : ByteArray))) (fun _ hk => hk.2) (.bool false)) (fun _ hk => trivial)))⟩; have n2_ : Aside0 (w110.heap[gb212]? = some (.cells #[.slice none 0 0, .string (⟨#[]⟩ : ByteArray), .bool false] 24 (0, 0))) := ⟨(by rw [hw]; exact (by (with_reducible repeat (first | refine blk_drewN ?_ _ | refine blk_drew ?_ | refine blk_alloc ?_ _)); refine blk_put (cs := #[.slice none 0 0, .string (⟨#[]⟩ : ByteArray), .bool false]) ?_ 2 _ rfl; (with_reducible repeat (first | refine blk_drewN ?_ _ | refine blk_drew ?_ | refine blk_alloc ?_ _)); refine blk_put (cs := #[.slice none 0 0, .string (⟨#[]⟩ : ByteArray), .bool false]) ?_ 1 _ rfl; (with_reducible repeat (first | refine blk_drewN ?_ _ | refine blk_drew ?_ | refine blk_alloc ?_ _)); refine blk_put (cs := #[.slice none 0 0, .string (⟨#[]⟩ : ByteArray), .bool false]) ?_ 0 _ rfl; (with_reducible repeat (first | refine blk_drewN ?_ _ | refine blk_drew ?_ | refine blk_alloc ?_ _)); exact BK212.out))⟩; have n3_ : Aside0 (w110.heap[gb218]? = some (.cells #[u219000, .string x219001_7, .bool (decide (t217 < 0))] 24 (0, 0))) := ⟨(by rw [hw]; exact (bk BK218.out))⟩; have n4_ : Aside0 (Below w.heap.size w w110) := ⟨(by rw [hw]; exact bl)⟩; clear hw; clear HO_4; clear HO_219000; clear BK212; clear BK218; clear HB; have HO_4 := n0_; have HO_219000 := n1_; have BK212 := n2_; have BK218 := n3_; have HB := n4_; clear n0_ n1_ n2_ n3_ n4_))
          refine bodyPost_ret (results_ct rfl _ _ gb212 24 #[.slice none 0 0, .string (⟨#[]⟩ : ByteArray), .bool false] (0, 0) _ rfl (bk BK212.out) Tryz.underlying24 rfl (by kernel_rfl)) rfl ?_
          exact ⟨_, by first | rfl | (simp [errW_none, errW_some] <;> rfl) | (simp [*, errW_none, errW_some] <;> rfl), by first | exact Kd.R_nil _ _ _ _ _ | exact Kd.N_nil _ _ _ _ _ | exact Kd.V_nil _ _ _ _ _ | exact Kd.Q_nil _ _ _ _ _ | exact Kd.S_nil _ _ _ _ _, by repeat (first | (with_reducible first | exact HB.out | apply below_alloc | apply pw_below_drewN | apply below_drew1 | refine below_set ?_ GE212.out | refine below_set ?_ GE218.out) | exact HB.out)⟩

end Go.Proofs.YtacjnapgdikhbaaGreatDoor.Q
end
section
namespace Go.Proofs.YtacjnapgdikhbaaGreatDoor.Q
open Go.RowKit Go.Proofs.YtacjnapgdikhbaaGreatDoorW.PrintWords Go.Proofs.YtacjnapgdikhbaaGreatDoorW.PrintLast Go.Proofs.YtacjnapgdikhbaaGreatDoorW.PrintMore
attribute [local go_sem] max2_int min2_int max_two min_two max_three min_three max_four min_four   -- for this text's walks alone
set_option linter.unusedVariables false
set_option linter.unusedSimpArgs false

theorem eqA52 (d : Nat) (w : World) (x0 y0 : ByteArray) (x1 y1 : ByteArray) (x2 y2 : Int) (x3 y3 : ByteArray) :
    (Op.equalIn (d + 3) 52 (.agg #[.string x0, .string x1, .int .i64 x2, .string x3]) (.agg #[.string y0, .string y1, .int .i64 y2, .string y3])).run Tryz.prog w = .ok ((x0.toList == y0.toList && (x1.toList == y1.toList)) && (x2 == y2 && (x3.toList == y3.toList))) w := by
  refine eqA_of Tryz.underlying52 (by kernel_rfl) ?_
  refine eqf_cons (by rfl) (by go_simp) (by go_simp) (eqA50 (d + 0) w _ _ _ _) ?_
  refine eqf_cons (by rfl) (by go_simp; rfl) (by go_simp; rfl) (by go_simp) ?_
  exact eqf_last (by rfl) (by go_simp; rfl) (by go_simp; rfl) (by go_simp)
end Go.Proofs.YtacjnapgdikhbaaGreatDoor.Q
end
section
namespace Go.Proofs.YtacjnapgdikhbaaGreatDoor.Q
open Go.RowKit Go.Proofs.YtacjnapgdikhbaaGreatDoorW.PrintWords Go.Proofs.YtacjnapgdikhbaaGreatDoorW.PrintLast Go.Proofs.YtacjnapgdikhbaaGreatDoorW.PrintMore
attribute [local go_sem] max2_int min2_int max_two min_two max_three min_three max_four min_four   -- for this text's walks alone
set_option linter.unusedVariables false
set_option linter.unusedSimpArgs false

attribute [local go_sem high] eqA50 eqA52
/-! ### postriderlaw22_tells: function 20 -/
def postriderlaw22_tells.f (k : Nat)  : Option (Bool) := (head_Parse.f k (⟨#[68, 101, 108, 105, 118, 101, 114, 101, 100, 45, 84, 111, 58, 32, 65, 110, 110, 64, 104, 111, 109, 101, 46, 111, 114, 103, 13, 10, 13, 10]⟩ : ByteArray)).bind fun bt266 => ((guard_Check.f k bt266.1 bt266.2.1 bt266.2.2.1 (([(⟨(⟨#[65, 110, 110]⟩ : ByteArray), (⟨#[72, 79, 77, 69, 46, 111, 114, 103]⟩ : ByteArray)⟩ : S50), (⟨(⟨#[98, 111, 98]⟩ : ByteArray), (⟨#[120]⟩ : ByteArray)⟩ : S50)] : List (S50)))).bind fun bt278 => (if bt266.2.2.2 = 0 then (if (bt278.1.length : Int) = 1 then (if 0 < (bt278.1.length : Int) then (if ((((rd_T50 bt278.1 0).f0).toList) == ([98, 111, 98] : List UInt8) && ((((rd_T50 bt278.1 0).f1).toList) == ([120] : List UInt8))) = true then (if (bt278.2.length : Int) = 1 then (if 0 < (bt278.2.length : Int) then (some (((((rd_T52 bt278.2 0).f0.f0).toList) == ([65, 110, 110] : List UInt8) && ((((rd_T52 bt278.2 0).f0.f1).toList) == ([72, 79, 77, 69, 46, 111, 114, 103] : List UInt8))) && (((rd_T52 bt278.2 0).f1) == 554 && ((((rd_T52 bt278.2 0).f2).toList) == ([109, 97, 105, 108, 32, 108, 111, 111, 112] : List UInt8))))) else (none)) else (some false)) else (some false)) else (none)) else (some false)) else (some false)))
theorem postriderlaw22_tells.mono : ∀ k, LeO (postriderlaw22_tells.f k ) (postriderlaw22_tells.f (k + 1) ) := by
 intro  k
 unfold postriderlaw22_tells.f
 repeat' first
   | (with_reducible exact guard_Check.mono _ _ _ _ _)
   | (with_reducible exact head_Parse.mono _ _)
   | (with_reducible exact LeO.refl _)
   | (with_reducible exact LeO.none _)
   | (with_reducible refine LeO.ite ?_ ?_)
   | (with_reducible refine LeO.bind ?_ (fun _ => ?_))
   | exact guard_Check.mono _ _ _ _ _
   | exact head_Parse.mono _ _
   | exact LeO.none _
   | refine LeO.ite ?_ ?_
   | refine LeO.bind ?_ (fun _ => ?_)
set_option maxHeartbeats 8000000 in
set_option maxRecDepth 100000 in
theorem postriderlaw22_tells.calls (k : Nat)  (r : Bool) (w : World) (hG : Glob w) (hT : r = true) (h : postriderlaw22_tells.f k  = some r) :
  Calls Tryz.prog 20 #[] w fun e w' => e = .returned (.bool r) ∧ Below w.heap.size w w' := by
 have hu24 := Tryz.underlying24
 have hu50 := Tryz.underlying50
 have hu52 := Tryz.underlying52
 have HB := Aside0.mk (Below.refl w.heap.size w)
 have HG := Aside0.mk hG
 clear hG
 have HT_r := Aside0.mk hT
 clear hT
 have H : ((head_Parse.f k (⟨#[68, 101, 108, 105, 118, 101, 114, 101, 100, 45, 84, 111, 58, 32, 65, 110, 110, 64, 104, 111, 109, 101, 46, 111, 114, 103, 13, 10, 13, 10]⟩ : ByteArray)).bind fun bt266 => ((guard_Check.f k bt266.1 bt266.2.1 bt266.2.2.1 (([(⟨(⟨#[65, 110, 110]⟩ : ByteArray), (⟨#[72, 79, 77, 69, 46, 111, 114, 103]⟩ : ByteArray)⟩ : S50), (⟨(⟨#[98, 111, 98]⟩ : ByteArray), (⟨#[120]⟩ : ByteArray)⟩ : S50)] : List (S50)))).bind fun bt278 => (if bt266.2.2.2 = 0 then (if (bt278.1.length : Int) = 1 then (if 0 < (bt278.1.length : Int) then (if ((((rd_T50 bt278.1 0).f0).toList) == ([98, 111, 98] : List UInt8) && ((((rd_T50 bt278.1 0).f1).toList) == ([120] : List UInt8))) = true then (if (bt278.2.length : Int) = 1 then (if 0 < (bt278.2.length : Int) then (some (((((rd_T52 bt278.2 0).f0.f0).toList) == ([65, 110, 110] : List UInt8) && ((((rd_T52 bt278.2 0).f0.f1).toList) == ([72, 79, 77, 69, 46, 111, 114, 103] : List UInt8))) && (((rd_T52 bt278.2 0).f1) == 554 && ((((rd_T52 bt278.2 0).f2).toList) == ([109, 97, 105, 108, 32, 108, 111, 111, 112] : List UInt8))))) else (none)) else (some false)) else (some false)) else (none)) else (some false)) else (some false)))) = some r := h
 clear h
 replace H := Option.bind_eq_some_iff.mp H
 obtain ⟨⟨t266, t269, t270, t271⟩, A10, H⟩ := H
 replace H : ((guard_Check.f k t266 t269 t270 (([(⟨(⟨#[65, 110, 110]⟩ : ByteArray), (⟨#[72, 79, 77, 69, 46, 111, 114, 103]⟩ : ByteArray)⟩ : S50), (⟨(⟨#[98, 111, 98]⟩ : ByteArray), (⟨#[120]⟩ : ByteArray)⟩ : S50)] : List (S50)))).bind fun bt278 => (if t271 = 0 then (if (bt278.1.length : Int) = 1 then (if 0 < (bt278.1.length : Int) then (if ((((rd_T50 bt278.1 0).f0).toList) == ([98, 111, 98] : List UInt8) && ((((rd_T50 bt278.1 0).f1).toList) == ([120] : List UInt8))) = true then (if (bt278.2.length : Int) = 1 then (if 0 < (bt278.2.length : Int) then (some (((((rd_T52 bt278.2 0).f0.f0).toList) == ([65, 110, 110] : List UInt8) && ((((rd_T52 bt278.2 0).f0.f1).toList) == ([72, 79, 77, 69, 46, 111, 114, 103] : List UInt8))) && (((rd_T52 bt278.2 0).f1) == 554 && ((((rd_T52 bt278.2 0).f2).toList) == ([109, 97, 105, 108, 32, 108, 111, 111, 112] : List UInt8))))) else (none)) else (some false)) else (some false)) else (none)) else (some false)) else (some false))) = some r := H
 have A1 := Aside0.mk A10
 clear A10
 obtain ⟨y275, hy275⟩ : ∃ y_ : List (S50), y_ = (([(⟨(⟨#[65, 110, 110]⟩ : ByteArray), (⟨#[72, 79, 77, 69, 46, 111, 114, 103]⟩ : ByteArray)⟩ : S50), (⟨(⟨#[98, 111, 98]⟩ : ByteArray), (⟨#[120]⟩ : ByteArray)⟩ : S50)] : List (S50))) := ⟨_, rfl⟩
 replace H : ((guard_Check.f k t266 t269 t270 y275).bind fun bt278 => (if t271 = 0 then (if (bt278.1.length : Int) = 1 then (if 0 < (bt278.1.length : Int) then (if ((((rd_T50 bt278.1 0).f0).toList) == ([98, 111, 98] : List UInt8) && ((((rd_T50 bt278.1 0).f1).toList) == ([120] : List UInt8))) = true then (if (bt278.2.length : Int) = 1 then (if 0 < (bt278.2.length : Int) then (some (((((rd_T52 bt278.2 0).f0.f0).toList) == ([65, 110, 110] : List UInt8) && ((((rd_T52 bt278.2 0).f0.f1).toList) == ([72, 79, 77, 69, 46, 111, 114, 103] : List UInt8))) && (((rd_T52 bt278.2 0).f1) == 554 && ((((rd_T52 bt278.2 0).f2).toList) == ([109, 97, 105, 108, 32, 108, 111, 111, 112] : List UInt8))))) else (none)) else (some false)) else (some false)) else (none)) else (some false)) else (some false))) = some r := by first | (rw [hy275]; with_reducible exact H) | (have H2_ := (Option.bind_some _ _).symm.trans H; rw [hy275]; with_reducible exact H2_) | (have H2_ := (Option.bind_some _ _).symm.trans H; with_reducible exact H2_) | with_reducible exact H | (rw [hy275]; exact H) | exact H
 have Ny275 := Aside0.mk hy275
 clear hy275
 replace H := Option.bind_eq_some_iff.mp H
 obtain ⟨⟨t278, t281⟩, A20, H⟩ := H
 replace H : (if t271 = 0 then (if (t278.length : Int) = 1 then (if 0 < (t278.length : Int) then (if ((((rd_T50 t278 0).f0).toList) == ([98, 111, 98] : List UInt8) && ((((rd_T50 t278 0).f1).toList) == ([120] : List UInt8))) = true then (if (t281.length : Int) = 1 then (if 0 < (t281.length : Int) then (some (((((rd_T52 t281 0).f0.f0).toList) == ([65, 110, 110] : List UInt8) && ((((rd_T52 t281 0).f0.f1).toList) == ([72, 79, 77, 69, 46, 111, 114, 103] : List UInt8))) && (((rd_T52 t281 0).f1) == 554 && ((((rd_T52 t281 0).f2).toList) == ([109, 97, 105, 108, 32, 108, 111, 111, 112] : List UInt8))))) else (none)) else (some false)) else (some false)) else (none)) else (some false)) else (some false)) = some r := H
 have A2 := Aside0.mk A20
 clear A20
 by_cases c3 : t271 = 0
 ·rw [if_pos c3] at H
  have c3b0 : (t271 == 0) = true := beq_iff_eq.mpr c3
  have c3b1 : (t271 != 0) = false := bne_eq_false_iff_eq.mpr c3
  clear c3
  by_cases c4 : (t278.length : Int) = 1
  ·rw [if_pos c4] at H
   have c4b0 : ((t278.length : Int) == 1) = true := beq_iff_eq.mpr c4
   have c4b1 : ((t278.length : Int) != 1) = false := bne_eq_false_iff_eq.mpr c4
   clear c4
   by_cases c5 : 0 < (t278.length : Int)
   ·rw [if_pos c5] at H
    have c5b0 : decide (0 < (t278.length : Int)) = true := decide_eq_true c5
    have c5b1 : decide (0 < t278.length) = true := decide_eq_true (by omega)
    clear c5
    by_cases c6 : ((((rd_T50 t278 0).f0).toList) == ([98, 111, 98] : List UInt8) && ((((rd_T50 t278 0).f1).toList) == ([120] : List UInt8))) = true
    ·rw [if_pos c6] at H
     have c6b0 : ((((rd_T50 t278 0).f0).toList) == ([98, 111, 98] : List UInt8) && ((((rd_T50 t278 0).f1).toList) == ([120] : List UInt8))) = true := c6
     (try (have c6b1 : decide ((((rd_T50 t278 0).f0).toList) = ([98, 111, 98] : List UInt8) && ((((rd_T50 t278 0).f1).toList) == ([120] : List UInt8))) = true := by simpa using c6))
     (try (have c6b2 : ((((rd_T50 t278 0).f0).toList) == ([98, 111, 98] : List UInt8) && ((((rd_T50 t278 0).f1).toList) == ([120] : List UInt8))) = true := by simpa using c6))
     clear c6
     by_cases c7 : (t281.length : Int) = 1
     ·rw [if_pos c7] at H
      have c7b0 : ((t281.length : Int) == 1) = true := beq_iff_eq.mpr c7
      have c7b1 : ((t281.length : Int) != 1) = false := bne_eq_false_iff_eq.mpr c7
      clear c7
      by_cases c8 : 0 < (t281.length : Int)
      ·rw [if_pos c8] at H
       have c8b0 : decide (0 < (t281.length : Int)) = true := decide_eq_true c8
       have c8b1 : decide (0 < t281.length) = true := decide_eq_true (by omega)
       clear c8
       obtain rfl := Option.some.inj H
       go_enter Tryz.func20, Tryz.ntmps20
       go_wp2_with (first | (go_at_call 21; (with_reducible refine (head_Parse.calls k (⟨#[68, 101, 108, 105, 118, 101, 114, 101, 100, 45, 84, 111, 58, 32, 65, 110, 110, 64, 104, 111, 109, 101, 46, 111, 114, 103, 13, 10, 13, 10]⟩ : ByteArray) t266 t269 t270 t271 _ ?side1 A1.out).mono ?_); (case side1 => exact Glob.below HG.out bl); rintro e w9 ⟨v267, rfl, ho0, hb⟩; have n0_ := Aside0.mk (Kd.R_lower ho0 (below_size bl)); have n1_ := Aside0.mk (below_step bl hb); clear HB; have HO268 := n0_; have HB := n1_; clear n0_ n1_; (try clear hb); (try clear hb2); (try clear hk); (try clear hi); (try clear ho0)) | ((with_reducible refine gate_dst (N := 1) rfl ?_); (try (refine gate_guard (by rfl) ?_; dsimp only)); refine box_event ?hg (N := 1) ?hd (cs := #[.slice none 0 0, .string (⟨#[]⟩ : ByteArray), .bool false]) (t := 24) ?hr ?_; (case hd => rfl); (case hg => rfl); (case hr => first | (go_simp; done) | (go_simp; rfl)); intro gb272 hg w10 hbox hb; have n0_ := Aside0.mk (Kd.R_below (kr HO268.out) hb); have n1_ := Aside0.mk (below_step bl hb); have n2_ := Aside0.mk (hbox); have n3_ := Aside0.mk ((by rw [hg]; exact (below_size bl) : w.heap.size ≤ gb272)); have n4_ := Aside0.mk ((by rw [hg]; exact (below_size bl) : w.heap.size ≤ gb272)); clear HO268; clear HB; have HO268 := n0_; have HB := n1_; have BK272 := n2_; have GW272 := n3_; have GE272 := n4_; clear n0_ n1_ n2_ n3_ n4_; clear hb hbox hg; obtain ⟨Ao11, co11, eo11⟩ := Kd.R_slice HO268.out; subst eo11; have hcz12_0 : w10.cell? ⟨gb272, 0, none⟩ = some (.slice none 0 0) := (blk_cell BK272.out 0).trans rfl; have hcz12_1 : w10.cell? ⟨gb272, 1, none⟩ = some (.string (⟨#[]⟩ : ByteArray)) := (blk_cell BK272.out 1).trans rfl; have hcz12_2 : w10.cell? ⟨gb272, 2, none⟩ = some (.bool false) := (blk_cell BK272.out 2).trans rfl; have hfz12_0 := blk_frozen BK272.out 0; have hfz12_1 := blk_frozen BK272.out 1; have hfz12_2 := blk_frozen BK272.out 2) | ((with_reducible refine gate_dst (N := 3) rfl ?_); (try (refine gate_guard (by rfl) ?_; dsimp only)); refine box_event ?hg (N := 3) ?hd (cs := #[.string (⟨#[]⟩ : ByteArray), .string (⟨#[]⟩ : ByteArray)]) (t := 50) ?hr ?_; (case hd => rfl); (case hg => rfl); (case hr => first | (go_simp; done) | (go_simp; rfl)); intro gb273 hg w13 hbox hb; have n0_ := Aside0.mk (Kd.R_below (by (with_reducible repeat (first | apply Kd.R_alloc | apply Kd.R_drewN | apply Kd.R_drew)); exact (Kd.R_mono (Kd.R_far (p := ⟨gb272, 2, none⟩) (Kd.R_far (p := ⟨gb272, 1, none⟩) (Kd.R_far (p := ⟨gb272, 0, none⟩) (Kd.R_types HO268.out BK272.out (by decide)) (fun _ hk => hk.2) (.slice Ao11 t266.length co11)) (fun _ hk => hk.2) (.string t269)) (fun _ hk => hk.2) (.bool t270)) (fun _ h_ => h_.1))) hb); have n1_ := Aside0.mk (blk_below (g := gb272) (o := .cells #[.slice Ao11 t266.length co11, .string t269, .bool t270] 24 (0, 0)) (by (with_reducible repeat (first | refine blk_drewN ?_ _ | refine blk_drew ?_ | refine blk_alloc ?_ _)); refine blk_put (cs := #[.slice Ao11 t266.length co11, .string t269, .bool false]) ?_ 2 _ rfl; (with_reducible repeat (first | refine blk_drewN ?_ _ | refine blk_drew ?_ | refine blk_alloc ?_ _)); refine blk_put (cs := #[.slice Ao11 t266.length co11, .string (⟨#[]⟩ : ByteArray), .bool false]) ?_ 1 _ rfl; (with_reducible repeat (first | refine blk_drewN ?_ _ | refine blk_drew ?_ | refine blk_alloc ?_ _)); refine blk_put (cs := #[.slice none 0 0, .string (⟨#[]⟩ : ByteArray), .bool false]) ?_ 0 _ rfl; (with_reducible repeat (first | refine blk_drewN ?_ _ | refine blk_drew ?_ | refine blk_alloc ?_ _)); exact BK272.out) hb); have n2_ := Aside0.mk (below_step bl hb); have n3_ := Aside0.mk (hbox); have n4_ := Aside0.mk ((by rw [hg]; exact (below_size bl) : w.heap.size ≤ gb273)); have n5_ := Aside0.mk ((by rw [hg]; exact (below_size bl) : w.heap.size ≤ gb273)); have n6_ := Aside0.mk ((by rw [hg]; exact Nat.ne_of_lt (blk_lt (g := gb272) (o := .cells #[.slice Ao11 t266.length co11, .string t269, .bool t270] 24 (0, 0)) (by (with_reducible repeat (first | refine blk_drewN ?_ _ | refine blk_drew ?_ | refine blk_alloc ?_ _)); refine blk_put (cs := #[.slice Ao11 t266.length co11, .string t269, .bool false]) ?_ 2 _ rfl; (with_reducible repeat (first | refine blk_drewN ?_ _ | refine blk_drew ?_ | refine blk_alloc ?_ _)); refine blk_put (cs := #[.slice Ao11 t266.length co11, .string (⟨#[]⟩ : ByteArray), .bool false]) ?_ 1 _ rfl; (with_reducible repeat (first | refine blk_drewN ?_ _ | refine blk_drew ?_ | refine blk_alloc ?_ _)); refine blk_put (cs := #[.slice none 0 0, .string (⟨#[]⟩ : ByteArray), .bool false]) ?_ 0 _ rfl; (with_reducible repeat (first | refine blk_drewN ?_ _ | refine blk_drew ?_ | refine blk_alloc ?_ _)); exact BK272.out)) : gb272 ≠ gb273)); have n7_ := Aside0.mk ((by rw [hg]; exact Nat.ne_of_gt (blk_lt (g := gb272) (o := .cells #[.slice Ao11 t266.length co11, .string t269, .bool t270] 24 (0, 0)) (by (with_reducible repeat (first | refine blk_drewN ?_ _ | refine blk_drew ?_ | refine blk_alloc ?_ _)); refine blk_put (cs := #[.slice Ao11 t266.length co11, .string t269, .bool false]) ?_ 2 _ rfl; (with_reducible repeat (first | refine blk_drewN ?_ _ | refine blk_drew ?_ | refine blk_alloc ?_ _)); refine blk_put (cs := #[.slice Ao11 t266.length co11, .string (⟨#[]⟩ : ByteArray), .bool false]) ?_ 1 _ rfl; (with_reducible repeat (first | refine blk_drewN ?_ _ | refine blk_drew ?_ | refine blk_alloc ?_ _)); refine blk_put (cs := #[.slice none 0 0, .string (⟨#[]⟩ : ByteArray), .bool false]) ?_ 0 _ rfl; (with_reducible repeat (first | refine blk_drewN ?_ _ | refine blk_drew ?_ | refine blk_alloc ?_ _)); exact BK272.out)) : gb273 ≠ gb272)); clear HO268; clear BK272; clear HB; have HO268 := n0_; have BK272 := n1_; have HB := n2_; have BK273 := n3_; have GW273 := n4_; have GE273 := n5_; have NB272_273 := n6_; have NB273_272 := n7_; clear n0_ n1_ n2_ n3_ n4_ n5_ n6_ n7_; clear hb hbox hg) | ((with_reducible refine gate_dst (N := 4) rfl ?_); (try (refine gate_guard (by rfl) ?_; dsimp only)); refine box_event ?hg (N := 4) ?hd (cs := #[.string (⟨#[]⟩ : ByteArray), .string (⟨#[]⟩ : ByteArray)]) (t := 50) ?hr ?_; (case hd => rfl); (case hg => rfl); (case hr => first | (go_simp; done) | (go_simp; rfl)); intro gb274 hg w14 hbox hb; have n0_ := Aside0.mk (Kd.R_below (kr HO268.out) hb); have n1_ := Aside0.mk (kb BK272.out hb); have n2_ := Aside0.mk (kb BK273.out hb); have n3_ := Aside0.mk (below_step bl hb); have n4_ := Aside0.mk (hbox); have n5_ := Aside0.mk ((by rw [hg]; exact (below_size bl) : w.heap.size ≤ gb274)); have n6_ := Aside0.mk ((by rw [hg]; exact (below_size bl) : w.heap.size ≤ gb274)); have n7_ := Aside0.mk ((by rw [hg]; exact Nat.ne_of_lt (blk_lt (bk BK272.out)) : gb272 ≠ gb274)); have n8_ := Aside0.mk ((by rw [hg]; exact Nat.ne_of_gt (blk_lt (bk BK272.out)) : gb274 ≠ gb272)); have n9_ := Aside0.mk ((by rw [hg]; exact Nat.ne_of_lt (blk_lt (bk BK273.out)) : gb273 ≠ gb274)); have n10_ := Aside0.mk ((by rw [hg]; exact Nat.ne_of_gt (blk_lt (bk BK273.out)) : gb274 ≠ gb273)); clear HO268; clear BK272; clear BK273; clear HB; have HO268 := n0_; have BK272 := n1_; have BK273 := n2_; have HB := n3_; have BK274 := n4_; have GW274 := n5_; have GE274 := n6_; have NB272_274 := n7_; have NB274_272 := n8_; have NB273_274 := n9_; have NB274_273 := n10_; clear n0_ n1_ n2_ n3_ n4_ n5_ n6_ n7_ n8_ n9_ n10_; clear hb hbox hg; have hnb15 := NB273_272.out; have hnc15 := NB272_273.out; have hnb16 := NB273_274.out; have hnc16 := NB274_273.out; have hcz17_0 : w14.cell? ⟨gb273, 0, none⟩ = some (.string (⟨#[]⟩ : ByteArray)) := (blk_cell BK273.out 0).trans rfl; have hcz17_1 : w14.cell? ⟨gb273, 1, none⟩ = some (.string (⟨#[]⟩ : ByteArray)) := (blk_cell BK273.out 1).trans rfl; have hfz17_0 := blk_frozen BK273.out 0; have hfz17_1 := blk_frozen BK273.out 1; have hnb18 := NB274_272.out; have hnc18 := NB272_274.out; have hcz19_0 : w14.cell? ⟨gb274, 0, none⟩ = some (.string (⟨#[]⟩ : ByteArray)) := (blk_cell BK274.out 0).trans rfl; have hcz19_1 : w14.cell? ⟨gb274, 1, none⟩ = some (.string (⟨#[]⟩ : ByteArray)) := (blk_cell BK274.out 1).trans rfl; have hfz19_0 := blk_frozen BK274.out 0; have hfz19_1 := blk_frozen BK274.out 1; have hcz20_0 : w14.cell? ⟨gb272, 0, none⟩ = some (.slice Ao11 t266.length co11) := (blk_cell BK272.out 0).trans rfl; have hcz20_1 : w14.cell? ⟨gb272, 1, none⟩ = some (.string t269) := (blk_cell BK272.out 1).trans rfl; have hcz20_2 : w14.cell? ⟨gb272, 2, none⟩ = some (.bool t270) := (blk_cell BK272.out 2).trans rfl; have hfz20_0 := blk_frozen BK272.out 0; have hfz20_1 := blk_frozen BK272.out 1; have hfz20_2 := blk_frozen BK272.out 2) | ((with_reducible refine gate_dst (N := 17) rfl ?_); (try (refine gate_guard (by rfl) ?_; dsimp only)); refine Kd.R_lit k50 _ 50 ?hg (N := 17) ?hd (xs := ([(⟨(⟨#[65, 110, 110]⟩ : ByteArray), (⟨#[72, 79, 77, 69, 46, 111, 114, 103]⟩ : ByteArray)⟩ : S50), (⟨(⟨#[98, 111, 98]⟩ : ByteArray), (⟨#[120]⟩ : ByteArray)⟩ : S50)] : List (S50))) (inner := [.string (⟨#[65, 110, 110]⟩ : ByteArray), .string (⟨#[72, 79, 77, 69, 46, 111, 114, 103]⟩ : ByteArray), .string (⟨#[98, 111, 98]⟩ : ByteArray), .string (⟨#[120]⟩ : ByteArray)]) (ok := fun _ => True) (okp := fun _ => True) ?hr ?hp (fun _ hk => hk) trivial (Below.refl _ _) (Nat.le_refl _) (by simp) ?_; (case hd => rfl); (case hg => rfl); (case hr => first | (go_simp; done) | (go_simp; rfl)); (case hp => exact (Reps.c2 (show Kd.M k50 _ _ _ (⟨(⟨#[65, 110, 110]⟩ : ByteArray), (⟨#[72, 79, 77, 69, 46, 111, 114, 103]⟩ : ByteArray)⟩ : S50) [.string (⟨#[65, 110, 110]⟩ : ByteArray), .string (⟨#[72, 79, 77, 69, 46, 111, 114, 103]⟩ : ByteArray)] from (k50_mkM _ _ _ (⟨(⟨#[65, 110, 110]⟩ : ByteArray), (⟨#[72, 79, 77, 69, 46, 111, 114, 103]⟩ : ByteArray)⟩ : S50) )) (Reps.c2 (show Kd.M k50 _ _ _ (⟨(⟨#[98, 111, 98]⟩ : ByteArray), (⟨#[120]⟩ : ByteArray)⟩ : S50) [.string (⟨#[98, 111, 98]⟩ : ByteArray), .string (⟨#[120]⟩ : ByteArray)] from (k50_mkM _ _ _ (⟨(⟨#[98, 111, 98]⟩ : ByteArray), (⟨#[120]⟩ : ByteArray)⟩ : S50) )) (Reps.none _ _)))); intro v276 w21 ho22 hb hg_ hnew_; clear hg_ hnew_; (first | rw [← Ny275.out] at ho22 | (simp only [Int.reduceToNat] at ho22; rw [← Ny275.out] at ho22)); have n0_ := Aside0.mk (Kd.R_below (by (with_reducible repeat (first | apply Kd.R_alloc | apply Kd.R_drewN | apply Kd.R_drew)); exact (Kd.R_mono (Kd.R_mono (Kd.R_far (p := ⟨gb274, 1, none⟩) (Kd.R_far (p := ⟨gb274, 0, none⟩) (Kd.R_far (p := ⟨gb273, 1, none⟩) (Kd.R_far (p := ⟨gb273, 0, none⟩) (Kd.R_types (Kd.R_types HO268.out BK273.out (by decide)) BK274.out (by decide)) (fun _ hk => hk.1.2) (.string (⟨#[65, 110, 110]⟩ : ByteArray))) (fun _ hk => hk.1.2) (.string (⟨#[72, 79, 77, 69, 46, 111, 114, 103]⟩ : ByteArray))) (fun _ hk => hk.2) (.string (⟨#[98, 111, 98]⟩ : ByteArray))) (fun _ hk => hk.2) (.string (⟨#[120]⟩ : ByteArray))) (fun _ h_ => h_.1)) (fun _ h_ => h_.1))) hb); have n1_ := Aside0.mk (Kd.R_lower (Kd.R_newB (Kd.R_newB ho22 (g := gb273) (o := .cells #[.string (⟨#[65, 110, 110]⟩ : ByteArray), .string (⟨#[72, 79, 77, 69, 46, 111, 114, 103]⟩ : ByteArray)] 50 (0, 0)) (by (with_reducible repeat (first | refine blk_drewN ?_ _ | refine blk_drew ?_ | refine blk_alloc ?_ _)); refine blk_far ?_ NB273_274.out _; (with_reducible repeat (first | refine blk_drewN ?_ _ | refine blk_drew ?_ | refine blk_alloc ?_ _)); refine blk_far ?_ NB273_274.out _; (with_reducible repeat (first | refine blk_drewN ?_ _ | refine blk_drew ?_ | refine blk_alloc ?_ _)); refine blk_put (cs := #[.string (⟨#[65, 110, 110]⟩ : ByteArray), .string (⟨#[]⟩ : ByteArray)]) ?_ 1 _ rfl; (with_reducible repeat (first | refine blk_drewN ?_ _ | refine blk_drew ?_ | refine blk_alloc ?_ _)); refine blk_put (cs := #[.string (⟨#[]⟩ : ByteArray), .string (⟨#[]⟩ : ByteArray)]) ?_ 0 _ rfl; (with_reducible repeat (first | refine blk_drewN ?_ _ | refine blk_drew ?_ | refine blk_alloc ?_ _)); exact BK273.out)) (g := gb274) (o := .cells #[.string (⟨#[98, 111, 98]⟩ : ByteArray), .string (⟨#[120]⟩ : ByteArray)] 50 (0, 0)) (by (with_reducible repeat (first | refine blk_drewN ?_ _ | refine blk_drew ?_ | refine blk_alloc ?_ _)); refine blk_put (cs := #[.string (⟨#[98, 111, 98]⟩ : ByteArray), .string (⟨#[]⟩ : ByteArray)]) ?_ 1 _ rfl; (with_reducible repeat (first | refine blk_drewN ?_ _ | refine blk_drew ?_ | refine blk_alloc ?_ _)); refine blk_put (cs := #[.string (⟨#[]⟩ : ByteArray), .string (⟨#[]⟩ : ByteArray)]) ?_ 0 _ rfl; (with_reducible repeat (first | refine blk_drewN ?_ _ | refine blk_drew ?_ | refine blk_alloc ?_ _)); refine blk_far ?_ NB274_273.out _; (with_reducible repeat (first | refine blk_drewN ?_ _ | refine blk_drew ?_ | refine blk_alloc ?_ _)); refine blk_far ?_ NB274_273.out _; (with_reducible repeat (first | refine blk_drewN ?_ _ | refine blk_drew ?_ | refine blk_alloc ?_ _)); exact BK274.out)) (below_size bl)); have n2_ := Aside0.mk (kb BK272.out hb); have n3_ := Aside0.mk (blk_below (g := gb273) (o := .cells #[.string (⟨#[65, 110, 110]⟩ : ByteArray), .string (⟨#[72, 79, 77, 69, 46, 111, 114, 103]⟩ : ByteArray)] 50 (0, 0)) (by (with_reducible repeat (first | refine blk_drewN ?_ _ | refine blk_drew ?_ | refine blk_alloc ?_ _)); refine blk_far ?_ NB273_274.out _; (with_reducible repeat (first | refine blk_drewN ?_ _ | refine blk_drew ?_ | refine blk_alloc ?_ _)); refine blk_far ?_ NB273_274.out _; (with_reducible repeat (first | refine blk_drewN ?_ _ | refine blk_drew ?_ | refine blk_alloc ?_ _)); refine blk_put (cs := #[.string (⟨#[65, 110, 110]⟩ : ByteArray), .string (⟨#[]⟩ : ByteArray)]) ?_ 1 _ rfl; (with_reducible repeat (first | refine blk_drewN ?_ _ | refine blk_drew ?_ | refine blk_alloc ?_ _)); refine blk_put (cs := #[.string (⟨#[]⟩ : ByteArray), .string (⟨#[]⟩ : ByteArray)]) ?_ 0 _ rfl; (with_reducible repeat (first | refine blk_drewN ?_ _ | refine blk_drew ?_ | refine blk_alloc ?_ _)); exact BK273.out) hb); have n4_ := Aside0.mk (blk_below (g := gb274) (o := .cells #[.string (⟨#[98, 111, 98]⟩ : ByteArray), .string (⟨#[120]⟩ : ByteArray)] 50 (0, 0)) (by (with_reducible repeat (first | refine blk_drewN ?_ _ | refine blk_drew ?_ | refine blk_alloc ?_ _)); refine blk_put (cs := #[.string (⟨#[98, 111, 98]⟩ : ByteArray), .string (⟨#[]⟩ : ByteArray)]) ?_ 1 _ rfl; (with_reducible repeat (first | refine blk_drewN ?_ _ | refine blk_drew ?_ | refine blk_alloc ?_ _)); refine blk_put (cs := #[.string (⟨#[]⟩ : ByteArray), .string (⟨#[]⟩ : ByteArray)]) ?_ 0 _ rfl; (with_reducible repeat (first | refine blk_drewN ?_ _ | refine blk_drew ?_ | refine blk_alloc ?_ _)); refine blk_far ?_ NB274_273.out _; (with_reducible repeat (first | refine blk_drewN ?_ _ | refine blk_drew ?_ | refine blk_alloc ?_ _)); refine blk_far ?_ NB274_273.out _; (with_reducible repeat (first | refine blk_drewN ?_ _ | refine blk_drew ?_ | refine blk_alloc ?_ _)); exact BK274.out) hb); have n5_ := Aside0.mk (below_step bl hb); clear HO268; clear BK272; clear BK273; clear BK274; clear HB; have HO268 := n0_; have HO277 := n1_; have BK272 := n2_; have BK273 := n3_; have BK274 := n4_; have HB := n5_; clear n0_ n1_ n2_ n3_ n4_ n5_; clear hb ho22; obtain ⟨Ao23, co23, eo23⟩ := Kd.R_slice HO277.out; subst eo23) | (go_at_call 11; (with_reducible refine (guard_Check.calls k _ _ t266 t269 t270 _ _ y275 t278 t281 _ ?side1 ?side2 ?side3 ?side4 ?side5 A2.out).mono ?_); (case side1 => repeat (first | exact (Kd.R_reads' HO268.out).2.2 | (with_reducible refine Kd.C_alloc ?_ _) | (with_reducible refine Kd.C_drewN ?_ _) | (with_reducible refine Kd.C_drew ?_))); (case side2 => exact (Kd.R_reads' HO268.out).2.1); (case side3 => repeat (first | exact (Kd.R_reads' HO277.out).2.2 | (with_reducible refine Kd.C_alloc ?_ _) | (with_reducible refine Kd.C_drewN ?_ _) | (with_reducible refine Kd.C_drew ?_))); (case side4 => exact (Kd.R_reads' HO277.out).2.1); (case side5 => exact Glob.below HG.out bl); rintro e w24 ⟨v279, v282, rfl, ho0, ho1, hb⟩; have n0_ := Aside0.mk (Kd.R_below (kr HO268.out) hb); have n1_ := Aside0.mk (Kd.R_elder' (kr HO277.out) (Kd.R_base ho0) hb); have n2_ := Aside0.mk (Kd.R_lower (Kd.R_newB (Kd.R_newB (Kd.R_new' ho0 (Kd.R_lt (kr HO277.out))) (g := gb273) (o := .cells #[.string (⟨#[65, 110, 110]⟩ : ByteArray), .string (⟨#[72, 79, 77, 69, 46, 111, 114, 103]⟩ : ByteArray)] 50 (0, 0)) (bk BK273.out)) (g := gb274) (o := .cells #[.string (⟨#[98, 111, 98]⟩ : ByteArray), .string (⟨#[120]⟩ : ByteArray)] 50 (0, 0)) (bk BK274.out)) (below_size bl)); have n3_ := Aside0.mk (Kd.R_lower ho1 (below_size bl)); have n4_ := Aside0.mk (kb BK272.out hb); have n5_ := Aside0.mk (kb BK273.out hb); have n6_ := Aside0.mk (kb BK274.out hb); have n7_ := Aside0.mk (below_step bl hb); clear HO268; clear HO277; clear BK272; clear BK273; clear BK274; clear HB; have HO268 := n0_; have HO277 := n1_; have HO280 := n2_; have HO283 := n3_; have BK272 := n4_; have BK273 := n5_; have BK274 := n6_; have HB := n7_; clear n0_ n1_ n2_ n3_ n4_ n5_ n6_ n7_; (try clear hb); (try clear hb2); (try clear hk); (try clear hi); (try clear ho0); (try clear ho1); obtain ⟨Ao25, co25, eo25⟩ := Kd.R_slice HO280.out; subst eo25; have p284 : 0 ≤ (0 : Int) := (by omega); have q284 : 0 < (t278.length : Int) := od; obtain ⟨ad284, e284, hx284_0, hx284_1⟩ := at_T50 (Kd.R_reads' HO280.out).2.2 0 p284 q284; cases e284; have qi284 : (0 < t278.length) = True := eq_true (by omega); (try rw [show ((0 : Int)).toNat = 0 from rfl] at hx284_0); (try rw [show 0 * 2 = 0 from rfl] at hx284_0); (try rw [Addr.add_zero'] at hx284_0); (try rw [show ((0 : Int)).toNat = 0 from rfl] at hx284_1); (try rw [show 0 * 2 = 0 from rfl] at hx284_1); (try rw [Addr.add_zero'] at hx284_1); replace p284 := eq_true p284; replace q284 := eq_true q284; have hcz26_0 : w24.cell? ⟨gb274, 0, none⟩ = some (.string (⟨#[98, 111, 98]⟩ : ByteArray)) := (blk_cell BK274.out 0).trans rfl; have hcz26_1 : w24.cell? ⟨gb274, 1, none⟩ = some (.string (⟨#[120]⟩ : ByteArray)) := (blk_cell BK274.out 1).trans rfl; have hfz26_0 := blk_frozen BK274.out 0; have hfz26_1 := blk_frozen BK274.out 1; obtain ⟨Ao27, co27, eo27⟩ := Kd.R_slice HO283.out; subst eo27; have p285 : 0 ≤ (0 : Int) := (by omega); have q285 : 0 < (t281.length : Int) := od; obtain ⟨ad285, e285, hx285_0, hx285_1, hx285_2, hx285_3⟩ := at_T52 (Kd.R_reads' HO283.out).2.2 0 p285 q285; cases e285; have qi285 : (0 < t281.length) = True := eq_true (by omega); (try rw [show ((0 : Int)).toNat = 0 from rfl] at hx285_0); (try rw [show 0 * 4 = 0 from rfl] at hx285_0); (try rw [Addr.add_zero'] at hx285_0); (try rw [show ((0 : Int)).toNat = 0 from rfl] at hx285_1); (try rw [show 0 * 4 = 0 from rfl] at hx285_1); (try rw [Addr.add_zero'] at hx285_1); (try rw [show ((0 : Int)).toNat = 0 from rfl] at hx285_2); (try rw [show 0 * 4 = 0 from rfl] at hx285_2); (try rw [Addr.add_zero'] at hx285_2); (try rw [show ((0 : Int)).toNat = 0 from rfl] at hx285_3); (try rw [show 0 * 4 = 0 from rfl] at hx285_3); (try rw [Addr.add_zero'] at hx285_3); replace p285 := eq_true p285; replace q285 := eq_true q285; have hcz28_0 : w24.cell? ⟨gb273, 0, none⟩ = some (.string (⟨#[65, 110, 110]⟩ : ByteArray)) := (blk_cell BK273.out 0).trans rfl; have hcz28_1 : w24.cell? ⟨gb273, 1, none⟩ = some (.string (⟨#[72, 79, 77, 69, 46, 111, 114, 103]⟩ : ByteArray)) := (blk_cell BK273.out 1).trans rfl; have hfz28_0 := blk_frozen BK273.out 0; have hfz28_1 := blk_frozen BK273.out 1))
       repeat (go_quiet (first | (go_at_call 21; (with_reducible refine (head_Parse.calls k (⟨#[68, 101, 108, 105, 118, 101, 114, 101, 100, 45, 84, 111, 58, 32, 65, 110, 110, 64, 104, 111, 109, 101, 46, 111, 114, 103, 13, 10, 13, 10]⟩ : ByteArray) t266 t269 t270 t271 _ ?side1 A1.out).mono ?_); (case side1 => exact Glob.below HG.out bl); rintro e w9 ⟨v267, rfl, ho0, hb⟩; have n0_ := Aside0.mk (Kd.R_lower ho0 (below_size bl)); have n1_ := Aside0.mk (below_step bl hb); clear HB; have HO268 := n0_; have HB := n1_; clear n0_ n1_; (try clear hb); (try clear hb2); (try clear hk); (try clear hi); (try clear ho0)) | ((with_reducible refine gate_dst (N := 1) rfl ?_); (try (refine gate_guard (by rfl) ?_; dsimp only)); refine box_event ?hg (N := 1) ?hd (cs := #[.slice none 0 0, .string (⟨#[]⟩ : ByteArray), .bool false]) (t := 24) ?hr ?_; (case hd => rfl); (case hg => rfl); (case hr => first | (go_simp; done) | (go_simp; rfl)); intro gb272 hg w10 hbox hb; have n0_ := Aside0.mk (Kd.R_below (kr HO268.out) hb); have n1_ := Aside0.mk (below_step bl hb); have n2_ := Aside0.mk (hbox); have n3_ := Aside0.mk ((by rw [hg]; exact (below_size bl) : w.heap.size ≤ gb272)); have n4_ := Aside0.mk ((by rw [hg]; exact (below_size bl) : w.heap.size ≤ gb272)); clear HO268; clear HB; have HO268 := n0_; have HB := n1_; have BK272 := n2_; have GW272 := n3_; have GE272 := n4_; clear n0_ n1_ n2_ n3_ n4_; clear hb hbox hg; obtain ⟨Ao11, co11, eo11⟩ := Kd.R_slice HO268.out; subst eo11; have hcz12_0 : w10.cell? ⟨gb272, 0, none⟩ = some (.slice none 0 0) := (blk_cell BK272.out 0).trans rfl; have hcz12_1 : w10.cell? ⟨gb272, 1, none⟩ = some (.string (⟨#[]⟩ : ByteArray)) := (blk_cell BK272.out 1).trans rfl; have hcz12_2 : w10.cell? ⟨gb272, 2, none⟩ = some (.bool false) := (blk_cell BK272.out 2).trans rfl; have hfz12_0 := blk_frozen BK272.out 0; have hfz12_1 := blk_frozen BK272.out 1; have hfz12_2 := blk_frozen BK272.out 2) | ((with_reducible refine gate_dst (N := 3) rfl ?_); (try (refine gate_guard (by rfl) ?_; dsimp only)); refine box_event ?hg (N := 3) ?hd (cs := #[.string (⟨#[]⟩ : ByteArray), .string (⟨#[]⟩ : ByteArray)]) (t := 50) ?hr ?_; (case hd => rfl); (case hg => rfl); (case hr => first | (go_simp; done) | (go_simp; rfl)); intro gb273 hg w13 hbox hb; have n0_ := Aside0.mk (Kd.R_below (by (with_reducible repeat (first | apply Kd.R_alloc | apply Kd.R_drewN | apply Kd.R_drew)); exact (Kd.R_mono (Kd.R_far (p := ⟨gb272, 2, none⟩) (Kd.R_far (p := ⟨gb272, 1, none⟩) (Kd.R_far (p := ⟨gb272, 0, none⟩) (Kd.R_types HO268.out BK272.out (by decide)) (fun _ hk => hk.2) (.slice Ao11 t266.length co11)) (fun _ hk => hk.2) (.string t269)) (fun _ hk => hk.2) (.bool t270)) (fun _ h_ => h_.1))) hb); have n1_ := Aside0.mk (blk_below (g := gb272) (o := .cells #[.slice Ao11 t266.length co11, .string t269, .bool t270] 24 (0, 0)) (by (with_reducible repeat (first | refine blk_drewN ?_ _ | refine blk_drew ?_ | refine blk_alloc ?_ _)); refine blk_put (cs := #[.slice Ao11 t266.length co11, .string t269, .bool false]) ?_ 2 _ rfl; (with_reducible repeat (first | refine blk_drewN ?_ _ | refine blk_drew ?_ | refine blk_alloc ?_ _)); refine blk_put (cs := #[.slice Ao11 t266.length co11, .string (⟨#[]⟩ : ByteArray), .bool false]) ?_ 1 _ rfl; (with_reducible repeat (first | refine blk_drewN ?_ _ | refine blk_drew ?_ | refine blk_alloc ?_ _)); refine blk_put (cs := #[.slice none 0 0, .string (⟨#[]⟩ : ByteArray), .bool false]) ?_ 0 _ rfl; (with_reducible repeat (first | refine blk_drewN ?_ _ | refine blk_drew ?_ | refine blk_alloc ?_ _)); exact BK272.out) hb); have n2_ := Aside0.mk (below_step bl hb); have n3_ := Aside0.mk (hbox); have n4_ := Aside0.mk ((by rw [hg]; exact (below_size bl) : w.heap.size ≤ gb273)); have n5_ := Aside0.mk ((by rw [hg]; exact (below_size bl) : w.heap.size ≤ gb273)); have n6_ := Aside0.mk ((by rw [hg]; exact Nat.ne_of_lt (blk_lt (g := gb272) (o := .cells #[.slice Ao11 t266.length co11, .string t269, .bool t270] 24 (0, 0)) (by (with_reducible repeat (first | refine blk_drewN ?_ _ | refine blk_drew ?_ | refine blk_alloc ?_ _)); refine blk_put (cs := #[.slice Ao11 t266.length co11, .string t269, .bool false]) ?_ 2 _ rfl; (with_reducible repeat (first | refine blk_drewN ?_ _ | refine blk_drew ?_ | refine blk_alloc ?_ _)); refine blk_put (cs := #[.slice Ao11 t266.length co11, .string (⟨#[]⟩ : ByteArray), .bool false]) ?_ 1 _ rfl; (with_reducible repeat (first | refine blk_drewN ?_ _ | refine blk_drew ?_ | refine blk_alloc ?_ _)); refine blk_put (cs := #[.slice none 0 0, .string (⟨#[]⟩ : ByteArray), .bool false]) ?_ 0 _ rfl; (with_reducible repeat (first | refine blk_drewN ?_ _ | refine blk_drew ?_ | refine blk_alloc ?_ _)); exact BK272.out)) : gb272 ≠ gb273)); have n7_ := Aside0.mk ((by rw [hg]; exact Nat.ne_of_gt (blk_lt (g := gb272) (o := .cells #[.slice Ao11 t266.length co11, .string t269, .bool t270] 24 (0, 0)) (by (with_reducible repeat (first | refine blk_drewN ?_ _ | refine blk_drew ?_ | refine blk_alloc ?_ _)); refine blk_put (cs := #[.slice Ao11 t266.length co11, .string t269, .bool false]) ?_ 2 _ rfl; (with_reducible repeat (first | refine blk_drewN ?_ _ | refine blk_drew ?_ | refine blk_alloc ?_ _)); refine blk_put (cs := #[.slice Ao11 t266.length co11, .string (⟨#[]⟩ : ByteArray), .bool false]) ?_ 1 _ rfl; (with_reducible repeat (first | refine blk_drewN ?_ _ | refine blk_drew ?_ | refine blk_alloc ?_ _)); refine blk_put (cs := #[.slice none 0 0, .string (⟨#[]⟩ : ByteArray), .bool false]) ?_ 0 _ rfl; (with_reducible repeat (first | refine blk_drewN ?_ _ | refine blk_drew ?_ | refine blk_alloc ?_ _)); exact BK272.out)) : gb273 ≠ gb272)); clear HO268; clear BK272; clear HB; have HO268 := n0_; have BK272 := n1_; have HB := n2_; have BK273 := n3_; have GW273 := n4_; have GE273 := n5_; have NB272_273 := n6_; have NB273_272 := n7_; clear n0_ n1_ n2_ n3_ n4_ n5_ n6_ n7_; clear hb hbox hg) | ((with_reducible refine gate_dst (N := 4) rfl ?_); (try (refine gate_guard (by rfl) ?_; dsimp only)); refine box_event ?hg (N := 4) ?hd (cs := #[.string (⟨#[]⟩ : ByteArray), .string (⟨#[]⟩ : ByteArray)]) (t := 50) ?hr ?_; (case hd => rfl); (case hg => rfl); (case hr => first | (go_simp; done) | (go_simp; rfl)); intro gb274 hg w14 hbox hb; have n0_ := Aside0.mk (Kd.R_below (kr HO268.out) hb); have n1_ := Aside0.mk (kb BK272.out hb); have n2_ := Aside0.mk (kb BK273.out hb); have n3_ := Aside0.mk (below_step bl hb); have n4_ := Aside0.mk (hbox); have n5_ := Aside0.mk ((by rw [hg]; exact (below_size bl) : w.heap.size ≤ gb274)); have n6_ := Aside0.mk ((by rw [hg]; exact (below_size bl) : w.heap.size ≤ gb274)); have n7_ := Aside0.mk ((by rw [hg]; exact Nat.ne_of_lt (blk_lt (bk BK272.out)) : gb272 ≠ gb274)); have n8_ := Aside0.mk ((by rw [hg]; exact Nat.ne_of_gt (blk_lt (bk BK272.out)) : gb274 ≠ gb272)); have n9_ := Aside0.mk ((by rw [hg]; exact Nat.ne_of_lt (blk_lt (bk BK273.out)) : gb273 ≠ gb274)); have n10_ := Aside0.mk ((by rw [hg]; exact Nat.ne_of_gt (blk_lt (bk BK273.out)) : gb274 ≠ gb273)); clear HO268; clear BK272; clear BK273; clear HB; have HO268 := n0_; have BK272 := n1_; have BK273 := n2_; have HB := n3_; have BK274 := n4_; have GW274 := n5_; have GE274 := n6_; have NB272_274 := n7_; have NB274_272 := n8_; have NB273_274 := n9_; have NB274_273 := n10_; clear n0_ n1_ n2_ n3_ n4_ n5_ n6_ n7_ n8_ n9_ n10_; clear hb hbox hg; have hnb15 := NB273_272.out; have hnc15 := NB272_273.out; have hnb16 := NB273_274.out; have hnc16 := NB274_273.out; have hcz17_0 : w14.cell? ⟨gb273, 0, none⟩ = some (.string (⟨#[]⟩ : ByteArray)) := (blk_cell BK273.out 0).trans rfl; have hcz17_1 : w14.cell? ⟨gb273, 1, none⟩ = some (.string (⟨#[]⟩ : ByteArray)) := (blk_cell BK273.out 1).trans rfl; have hfz17_0 := blk_frozen BK273.out 0; have hfz17_1 := blk_frozen BK273.out 1; have hnb18 := NB274_272.out; have hnc18 := NB272_274.out; have hcz19_0 : w14.cell? ⟨gb274, 0, none⟩ = some (.string (⟨#[]⟩ : ByteArray)) := (blk_cell BK274.out 0).trans rfl; have hcz19_1 : w14.cell? ⟨gb274, 1, none⟩ = some (.string (⟨#[]⟩ : ByteArray)) := (blk_cell BK274.out 1).trans rfl; have hfz19_0 := blk_frozen BK274.out 0; have hfz19_1 := blk_frozen BK274.out 1; have hcz20_0 : w14.cell? ⟨gb272, 0, none⟩ = some (.slice Ao11 t266.length co11) := (blk_cell BK272.out 0).trans rfl; have hcz20_1 : w14.cell? ⟨gb272, 1, none⟩ = some (.string t269) := (blk_cell BK272.out 1).trans rfl; have hcz20_2 : w14.cell? ⟨gb272, 2, none⟩ = some (.bool t270) := (blk_cell BK272.out 2).trans rfl; have hfz20_0 := blk_frozen BK272.out 0; have hfz20_1 := blk_frozen BK272.out 1; have hfz20_2 := blk_frozen BK272.out 2) | ((with_reducible refine gate_dst (N := 17) rfl ?_); (try (refine gate_guard (by rfl) ?_; dsimp only)); refine Kd.R_lit k50 _ 50 ?hg (N := 17) ?hd (xs := ([(⟨(⟨#[65, 110, 110]⟩ : ByteArray), (⟨#[72, 79, 77, 69, 46, 111, 114, 103]⟩ : ByteArray)⟩ : S50), (⟨(⟨#[98, 111, 98]⟩ : ByteArray), (⟨#[120]⟩ : ByteArray)⟩ : S50)] : List (S50))) (inner := [.string (⟨#[65, 110, 110]⟩ : ByteArray), .string (⟨#[72, 79, 77, 69, 46, 111, 114, 103]⟩ : ByteArray), .string (⟨#[98, 111, 98]⟩ : ByteArray), .string (⟨#[120]⟩ : ByteArray)]) (ok := fun _ => True) (okp := fun _ => True) ?hr ?hp (fun _ hk => hk) trivial (Below.refl _ _) (Nat.le_refl _) (by simp) ?_; (case hd => rfl); (case hg => rfl); (case hr => first | (go_simp; done) | (go_simp; rfl)); (case hp => exact (Reps.c2 (show Kd.M k50 _ _ _ (⟨(⟨#[65, 110, 110]⟩ : ByteArray), (⟨#[72, 79, 77, 69, 46, 111, 114, 103]⟩ : ByteArray)⟩ : S50) [.string (⟨#[65, 110, 110]⟩ : ByteArray), .string (⟨#[72, 79, 77, 69, 46, 111, 114, 103]⟩ : ByteArray)] from (k50_mkM _ _ _ (⟨(⟨#[65, 110, 110]⟩ : ByteArray), (⟨#[72, 79, 77, 69, 46, 111, 114, 103]⟩ : ByteArray)⟩ : S50) )) (Reps.c2 (show Kd.M k50 _ _ _ (⟨(⟨#[98, 111, 98]⟩ : ByteArray), (⟨#[120]⟩ : ByteArray)⟩ : S50) [.string (⟨#[98, 111, 98]⟩ : ByteArray), .string (⟨#[120]⟩ : ByteArray)] from (k50_mkM _ _ _ (⟨(⟨#[98, 111, 98]⟩ : ByteArray), (⟨#[120]⟩ : ByteArray)⟩ : S50) )) (Reps.none _ _)))); intro v276 w21 ho22 hb hg_ hnew_; clear hg_ hnew_; (first | rw [← Ny275.out] at ho22 | (simp only [Int.reduceToNat] at ho22; rw [← Ny275.out] at ho22)); have n0_ := Aside0.mk (Kd.R_below (by (with_reducible repeat (first | apply Kd.R_alloc | apply Kd.R_drewN | apply Kd.R_drew)); exact (Kd.R_mono (Kd.R_mono (Kd.R_far (p := ⟨gb274, 1, none⟩) (Kd.R_far (p := ⟨gb274, 0, none⟩) (Kd.R_far (p := ⟨gb273, 1, none⟩) (Kd.R_far (p := ⟨gb273, 0, none⟩) (Kd.R_types (Kd.R_types HO268.out BK273.out (by decide)) BK274.out (by decide)) (fun _ hk => hk.1.2) (.string (⟨#[65, 110, 110]⟩ : ByteArray))) (fun _ hk => hk.1.2) (.string (⟨#[72, 79, 77, 69, 46, 111, 114, 103]⟩ : ByteArray))) (fun _ hk => hk.2) (.string (⟨#[98, 111, 98]⟩ : ByteArray))) (fun _ hk => hk.2) (.string (⟨#[120]⟩ : ByteArray))) (fun _ h_ => h_.1)) (fun _ h_ => h_.1))) hb); have n1_ := Aside0.mk (Kd.R_lower (Kd.R_newB (Kd.R_newB ho22 (g := gb273) (o := .cells #[.string (⟨#[65, 110, 110]⟩ : ByteArray), .string (⟨#[72, 79, 77, 69, 46, 111, 114, 103]⟩ : ByteArray)] 50 (0, 0)) (by (with_reducible repeat (first | refine blk_drewN ?_ _ | refine blk_drew ?_ | refine blk_alloc ?_ _)); refine blk_far ?_ NB273_274.out _; (with_reducible repeat (first | refine blk_drewN ?_ _ | refine blk_drew ?_ | refine blk_alloc ?_ _)); refine blk_far ?_ NB273_274.out _; (with_reducible repeat (first | refine blk_drewN ?_ _ | refine blk_drew ?_ | refine blk_alloc ?_ _)); refine blk_put (cs := #[.string (⟨#[65, 110, 110]⟩ : ByteArray), .string (⟨#[]⟩ : ByteArray)]) ?_ 1 _ rfl; (with_reducible repeat (first | refine blk_drewN ?_ _ | refine blk_drew ?_ | refine blk_alloc ?_ _)); refine blk_put (cs := #[.string (⟨#[]⟩ : ByteArray), .string (⟨#[]⟩ : ByteArray)]) ?_ 0 _ rfl; (with_reducible repeat (first | refine blk_drewN ?_ _ | refine blk_drew ?_ | refine blk_alloc ?_ _)); exact BK273.out)) (g := gb274) (o := .cells #[.string (⟨#[98, 111, 98]⟩ : ByteArray), .string (⟨#[120]⟩ : ByteArray)] 50 (0, 0)) (by (with_reducible repeat (first | refine blk_drewN ?_ _ | refine blk_drew ?_ | refine blk_alloc ?_ _)); refine blk_put (cs := #[.string (⟨#[98, 111, 98]⟩ : ByteArray), .string (⟨#[]⟩ : ByteArray)]) ?_ 1 _ rfl; (with_reducible repeat (first | refine blk_drewN ?_ _ | refine blk_drew ?_ | refine blk_alloc ?_ _)); refine blk_put (cs := #[.string (⟨#[]⟩ : ByteArray), .string (⟨#[]⟩ : ByteArray)]) ?_ 0 _ rfl; (with_reducible repeat (first | refine blk_drewN ?_ _ | refine blk_drew ?_ | refine blk_alloc ?_ _)); refine blk_far ?_ NB274_273.out _; (with_reducible repeat (first | refine blk_drewN ?_ _ | refine blk_drew ?_ | refine blk_alloc ?_ _)); refine blk_far ?_ NB274_273.out _; (with_reducible repeat (first | refine blk_drewN ?_ _ | refine blk_drew ?_ | refine blk_alloc ?_ _)); exact BK274.out)) (below_size bl)); have n2_ := Aside0.mk (kb BK272.out hb); have n3_ := Aside0.mk (blk_below (g := gb273) (o := .cells #[.string (⟨#[65, 110, 110]⟩ : ByteArray), .string (⟨#[72, 79, 77, 69, 46, 111, 114, 103]⟩ : ByteArray)] 50 (0, 0)) (by (with_reducible repeat (first | refine blk_drewN ?_ _ | refine blk_drew ?_ | refine blk_alloc ?_ _)); refine blk_far ?_ NB273_274.out _; (with_reducible repeat (first | refine blk_drewN ?_ _ | refine blk_drew ?_ | refine blk_alloc ?_ _)); refine blk_far ?_ NB273_274.out _; (with_reducible repeat (first | refine blk_drewN ?_ _ | refine blk_drew ?_ | refine blk_alloc ?_ _)); refine blk_put (cs := #[.string (⟨#[65, 110, 110]⟩ : ByteArray), .string (⟨#[]⟩ : ByteArray)]) ?_ 1 _ rfl; (with_reducible repeat (first | refine blk_drewN ?_ _ | refine blk_drew ?_ | refine blk_alloc ?_ _)); refine blk_put (cs := #[.string (⟨#[]⟩ : ByteArray), .string (⟨#[]⟩ : ByteArray)]) ?_ 0 _ rfl; (with_reducible repeat (first | refine blk_drewN ?_ _ | refine blk_drew ?_ | refine blk_alloc ?_ _)); exact BK273.out) hb); have n4_ := Aside0.mk (blk_below (g := gb274) (o := .cells #[.string (⟨#[98, 111, 98]⟩ : ByteArray), .string (⟨#[120]⟩ : ByteArray)] 50 (0, 0)) (by (with_reducible repeat (first | refine blk_drewN ?_ _ | refine blk_drew ?_ | refine blk_alloc ?_ _)); refine blk_put (cs := #[.string (⟨#[98, 111, 98]⟩ : ByteArray), .string (⟨#[]⟩ : ByteArray)]) ?_ 1 _ rfl; (with_reducible repeat (first | refine blk_drewN ?_ _ | refine blk_drew ?_ | refine blk_alloc ?_ _)); refine blk_put (cs := #[.string (⟨#[]⟩ : ByteArray), .string (⟨#[]⟩ : ByteArray)]) ?_ 0 _ rfl; (with_reducible repeat (first | refine blk_drewN ?_ _ | refine blk_drew ?_ | refine blk_alloc ?_ _)); refine blk_far ?_ NB274_273.out _; (with_reducible repeat (first | refine blk_drewN ?_ _ | refine blk_drew ?_ | refine blk_alloc ?_ _)); refine blk_far ?_ NB274_273.out _; (with_reducible repeat (first | refine blk_drewN ?_ _ | refine blk_drew ?_ | refine blk_alloc ?_ _)); exact BK274.out) hb); have n5_ := Aside0.mk (below_step bl hb); clear HO268; clear BK272; clear BK273; clear BK274; clear HB; have HO268 := n0_; have HO277 := n1_; have BK272 := n2_; have BK273 := n3_; have BK274 := n4_; have HB := n5_; clear n0_ n1_ n2_ n3_ n4_ n5_; clear hb ho22; obtain ⟨Ao23, co23, eo23⟩ := Kd.R_slice HO277.out; subst eo23) | (go_at_call 11; (with_reducible refine (guard_Check.calls k _ _ t266 t269 t270 _ _ y275 t278 t281 _ ?side1 ?side2 ?side3 ?side4 ?side5 A2.out).mono ?_); (case side1 => repeat (first | exact (Kd.R_reads' HO268.out).2.2 | (with_reducible refine Kd.C_alloc ?_ _) | (with_reducible refine Kd.C_drewN ?_ _) | (with_reducible refine Kd.C_drew ?_))); (case side2 => exact (Kd.R_reads' HO268.out).2.1); (case side3 => repeat (first | exact (Kd.R_reads' HO277.out).2.2 | (with_reducible refine Kd.C_alloc ?_ _) | (with_reducible refine Kd.C_drewN ?_ _) | (with_reducible refine Kd.C_drew ?_))); (case side4 => exact (Kd.R_reads' HO277.out).2.1); (case side5 => exact Glob.below HG.out bl); rintro e w24 ⟨v279, v282, rfl, ho0, ho1, hb⟩; have n0_ := Aside0.mk (Kd.R_below (kr HO268.out) hb); have n1_ := Aside0.mk (Kd.R_elder' (kr HO277.out) (Kd.R_base ho0) hb); have n2_ := Aside0.mk (Kd.R_lower (Kd.R_newB (Kd.R_newB (Kd.R_new' ho0 (Kd.R_lt (kr HO277.out))) (g := gb273) (o := .cells #[.string (⟨#[65, 110, 110]⟩ : ByteArray), .string (⟨#[72, 79, 77, 69, 46, 111, 114, 103]⟩ : ByteArray)] 50 (0, 0)) (bk BK273.out)) (g := gb274) (o := .cells #[.string (⟨#[98, 111, 98]⟩ : ByteArray), .string (⟨#[120]⟩ : ByteArray)] 50 (0, 0)) (bk BK274.out)) (below_size bl)); have n3_ := Aside0.mk (Kd.R_lower ho1 (below_size bl)); have n4_ := Aside0.mk (kb BK272.out hb); have n5_ := Aside0.mk (kb BK273.out hb); have n6_ := Aside0.mk (kb BK274.out hb); have n7_ := Aside0.mk (below_step bl hb); clear HO268; clear HO277; clear BK272; clear BK273; clear BK274; clear HB; have HO268 := n0_; have HO277 := n1_; have HO280 := n2_; have HO283 := n3_; have BK272 := n4_; have BK273 := n5_; have BK274 := n6_; have HB := n7_; clear n0_ n1_ n2_ n3_ n4_ n5_ n6_ n7_; (try clear hb); (try clear hb2); (try clear hk); (try clear hi); (try clear ho0); (try clear ho1); obtain ⟨Ao25, co25, eo25⟩ := Kd.R_slice HO280.out; subst eo25; have p284 : 0 ≤ (0 : Int) := (by omega); have q284 : 0 < (t278.length : Int) := od; obtain ⟨ad284, e284, hx284_0, hx284_1⟩ := at_T50 (Kd.R_reads' HO280.out).2.2 0 p284 q284; cases e284; have qi284 : (0 < t278.length) = True := eq_true (by omega); (try rw [show ((0 : Int)).toNat = 0 from rfl] at hx284_0); (try rw [show 0 * 2 = 0 from rfl] at hx284_0); (try rw [Addr.add_zero'] at hx284_0); (try rw [show ((0 : Int)).toNat = 0 from rfl] at hx284_1); (try rw [show 0 * 2 = 0 from rfl] at hx284_1); (try rw [Addr.add_zero'] at hx284_1); replace p284 := eq_true p284; replace q284 := eq_true q284; have hcz26_0 : w24.cell? ⟨gb274, 0, none⟩ = some (.string (⟨#[98, 111, 98]⟩ : ByteArray)) := (blk_cell BK274.out 0).trans rfl; have hcz26_1 : w24.cell? ⟨gb274, 1, none⟩ = some (.string (⟨#[120]⟩ : ByteArray)) := (blk_cell BK274.out 1).trans rfl; have hfz26_0 := blk_frozen BK274.out 0; have hfz26_1 := blk_frozen BK274.out 1; obtain ⟨Ao27, co27, eo27⟩ := Kd.R_slice HO283.out; subst eo27; have p285 : 0 ≤ (0 : Int) := (by omega); have q285 : 0 < (t281.length : Int) := od; obtain ⟨ad285, e285, hx285_0, hx285_1, hx285_2, hx285_3⟩ := at_T52 (Kd.R_reads' HO283.out).2.2 0 p285 q285; cases e285; have qi285 : (0 < t281.length) = True := eq_true (by omega); (try rw [show ((0 : Int)).toNat = 0 from rfl] at hx285_0); (try rw [show 0 * 4 = 0 from rfl] at hx285_0); (try rw [Addr.add_zero'] at hx285_0); (try rw [show ((0 : Int)).toNat = 0 from rfl] at hx285_1); (try rw [show 0 * 4 = 0 from rfl] at hx285_1); (try rw [Addr.add_zero'] at hx285_1); (try rw [show ((0 : Int)).toNat = 0 from rfl] at hx285_2); (try rw [show 0 * 4 = 0 from rfl] at hx285_2); (try rw [Addr.add_zero'] at hx285_2); (try rw [show ((0 : Int)).toNat = 0 from rfl] at hx285_3); (try rw [show 0 * 4 = 0 from rfl] at hx285_3); (try rw [Addr.add_zero'] at hx285_3); replace p285 := eq_true p285; replace q285 := eq_true q285; have hcz28_0 : w24.cell? ⟨gb273, 0, none⟩ = some (.string (⟨#[65, 110, 110]⟩ : ByteArray)) := (blk_cell BK273.out 0).trans rfl; have hcz28_1 : w24.cell? ⟨gb273, 1, none⟩ = some (.string (⟨#[72, 79, 77, 69, 46, 111, 114, 103]⟩ : ByteArray)) := (blk_cell BK273.out 1).trans rfl; have hfz28_0 := blk_frozen BK273.out 0; have hfz28_1 := blk_frozen BK273.out 1)); try go_wp2_with (first | (go_at_call 21; (with_reducible refine (head_Parse.calls k (⟨#[68, 101, 108, 105, 118, 101, 114, 101, 100, 45, 84, 111, 58, 32, 65, 110, 110, 64, 104, 111, 109, 101, 46, 111, 114, 103, 13, 10, 13, 10]⟩ : ByteArray) t266 t269 t270 t271 _ ?side1 A1.out).mono ?_); (case side1 => exact Glob.below HG.out bl); rintro e w9 ⟨v267, rfl, ho0, hb⟩; have n0_ := Aside0.mk (Kd.R_lower ho0 (below_size bl)); have n1_ := Aside0.mk (below_step bl hb); clear HB; have HO268 := n0_; have HB := n1_; clear n0_ n1_; (try clear hb); (try clear hb2); (try clear hk); (try clear hi); (try clear ho0)) | ((with_reducible refine gate_dst (N := 1) rfl ?_); (try (refine gate_guard (by rfl) ?_; dsimp only)); refine box_event ?hg (N := 1) ?hd (cs := #[.slice none 0 0, .string (⟨#[]⟩ : ByteArray), .bool false]) (t := 24) ?hr ?_; (case hd => rfl); (case hg => rfl); (case hr => first | (go_simp; done) | (go_simp; rfl)); intro gb272 hg w10 hbox hb; have n0_ := Aside0.mk (Kd.R_below (kr HO268.out) hb); have n1_ := Aside0.mk (below_step bl hb); have n2_ := Aside0.mk (hbox); have n3_ := Aside0.mk ((by rw [hg]; exact (below_size bl) : w.heap.size ≤ gb272)); have n4_ := Aside0.mk ((by rw [hg]; exact (below_size bl) : w.heap.size ≤ gb272)); clear HO268; clear HB; have HO268 := n0_; have HB := n1_; have BK272 := n2_; have GW272 := n3_; have GE272 := n4_; clear n0_ n1_ n2_ n3_ n4_; clear hb hbox hg; obtain ⟨Ao11, co11, eo11⟩ := Kd.R_slice HO268.out; subst eo11; have hcz12_0 : w10.cell? ⟨gb272, 0, none⟩ = some (.slice none 0 0) := (blk_cell BK272.out 0).trans rfl; have hcz12_1 : w10.cell? ⟨gb272, 1, none⟩ = some (.string (⟨#[]⟩ : ByteArray)) := (blk_cell BK272.out 1).trans rfl; have hcz12_2 : w10.cell? ⟨gb272, 2, none⟩ = some (.bool false) := (blk_cell BK272.out 2).trans rfl; have hfz12_0 := blk_frozen BK272.out 0; have hfz12_1 := blk_frozen BK272.out 1; have hfz12_2 := blk_frozen BK272.out 2) | ((with_reducible refine gate_dst (N := 3) rfl ?_); (try (refine gate_guard (by rfl) ?_; dsimp only)); refine box_event ?hg (N := 3) ?hd (cs := #[.string (⟨#[]⟩ : ByteArray), .string (⟨#[]⟩ : ByteArray)]) (t := 50) ?hr ?_; (case hd => rfl); (case hg => rfl); (case hr => first | (go_simp; done) | (go_simp; rfl)); intro gb273 hg w13 hbox hb; have n0_ := Aside0.mk (Kd.R_below (by (with_reducible repeat (first | apply Kd.R_alloc | apply Kd.R_drewN | apply Kd.R_drew)); exact (Kd.R_mono (Kd.R_far (p := ⟨gb272, 2, none⟩) (Kd.R_far (p := ⟨gb272, 1, none⟩) (Kd.R_far (p := ⟨gb272, 0, none⟩) (Kd.R_types HO268.out BK272.out (by decide)) (fun _ hk => hk.2) (.slice Ao11 t266.length co11)) (fun _ hk => hk.2) (.string t269)) (fun _ hk => hk.2) (.bool t270)) (fun _ h_ => h_.1))) hb); have n1_ := Aside0.mk (blk_below (g := gb272) (o := .cells #[.slice Ao11 t266.length co11, .string t269, .bool t270] 24 (0, 0)) (by (with_reducible repeat (first | refine blk_drewN ?_ _ | refine blk_drew ?_ | refine blk_alloc ?_ _)); refine blk_put (cs := #[.slice Ao11 t266.length co11, .string t269, .bool false]) ?_ 2 _ rfl; (with_reducible repeat (first | refine blk_drewN ?_ _ | refine blk_drew ?_ | refine blk_alloc ?_ _)); refine blk_put (cs := #[.slice Ao11 t266.length co11, .string (⟨#[]⟩ : ByteArray), .bool false]) ?_ 1 _ rfl; (with_reducible repeat (first | refine blk_drewN ?_ _ | refine blk_drew ?_ | refine blk_alloc ?_ _)); refine blk_put (cs := #[.slice none 0 0, .string (⟨#[]⟩ : ByteArray), .bool false]) ?_ 0 _ rfl; (with_reducible repeat (first | refine blk_drewN ?_ _ | refine blk_drew ?_ | refine blk_alloc ?_ _)); exact BK272.out) hb); have n2_ := Aside0.mk (below_step bl hb); have n3_ := Aside0.mk (hbox); have n4_ := Aside0.mk ((by rw [hg]; exact (below_size bl) : w.heap.size ≤ gb273)); have n5_ := Aside0.mk ((by rw [hg]; exact (below_size bl) : w.heap.size ≤ gb273)); have n6_ := Aside0.mk ((by rw [hg]; exact Nat.ne_of_lt (blk_lt (g := gb272) (o := .cells #[.slice Ao11 t266.length co11, .string t269, .bool t270] 24 (0, 0)) (by (with_reducible repeat (first | refine blk_drewN ?_ _ | refine blk_drew ?_ | refine blk_alloc ?_ _)); refine blk_put (cs := #[.slice Ao11 t266.length co11, .string t269, .bool false]) ?_ 2 _ rfl; (with_reducible repeat (first | refine blk_drewN ?_ _ | refine blk_drew ?_ | refine blk_alloc ?_ _)); refine blk_put (cs := #[.slice Ao11 t266.length co11, .string (⟨#[]⟩ : ByteArray), .bool false]) ?_ 1 _ rfl; (with_reducible repeat (first | refine blk_drewN ?_ _ | refine blk_drew ?_ | refine blk_alloc ?_ _)); refine blk_put (cs := #[.slice none 0 0, .string (⟨#[]⟩ : ByteArray), .bool false]) ?_ 0 _ rfl; (with_reducible repeat (first | refine blk_drewN ?_ _ | refine blk_drew ?_ | refine blk_alloc ?_ _)); exact BK272.out)) : gb272 ≠ gb273)); have n7_ := Aside0.mk ((by rw [hg]; exact Nat.ne_of_gt (blk_lt (g := gb272) (o := .cells #[.slice Ao11 t266.length co11, .string t269, .bool t270] 24 (0, 0)) (by (with_reducible repeat (first | refine blk_drewN ?_ _ | refine blk_drew ?_ | refine blk_alloc ?_ _)); refine blk_put (cs := #[.slice Ao11 t266.length co11, .string t269, .bool false]) ?_ 2 _ rfl; (with_reducible repeat (first | refine blk_drewN ?_ _ | refine blk_drew ?_ | refine blk_alloc ?_ _)); refine blk_put (cs := #[.slice Ao11 t266.length co11, .string (⟨#[]⟩ : ByteArray), .bool false]) ?_ 1 _ rfl; (with_reducible repeat (first | refine blk_drewN ?_ _ | refine blk_drew ?_ | refine blk_alloc ?_ _)); refine blk_put (cs := #[.slice none 0 0, .string (⟨#[]⟩ : ByteArray), .bool false]) ?_ 0 _ rfl; (with_reducible repeat (first | refine blk_drewN ?_ _ | refine blk_drew ?_ | refine blk_alloc ?_ _)); exact BK272.out)) : gb273 ≠ gb272)); clear HO268; clear BK272; clear HB; have HO268 := n0_; have BK272 := n1_; have HB := n2_; have BK273 := n3_; have GW273 := n4_; have GE273 := n5_; have NB272_273 := n6_; have NB273_272 := n7_; clear n0_ n1_ n2_ n3_ n4_ n5_ n6_ n7_; clear hb hbox hg) | ((with_reducible refine gate_dst (N := 4) rfl ?_); (try (refine gate_guard (by rfl) ?_; dsimp only)); refine box_event ?hg (N := 4) ?hd (cs := #[.string (⟨#[]⟩ : ByteArray), .string (⟨#[]⟩ : ByteArray)]) (t := 50) ?hr ?_; (case hd => rfl); (case hg => rfl); (case hr => first | (go_simp; done) | (go_simp; rfl)); intro gb274 hg w14 hbox hb; have n0_ := Aside0.mk (Kd.R_below (kr HO268.out) hb); have n1_ := Aside0.mk (kb BK272.out hb); have n2_ := Aside0.mk (kb BK273.out hb); have n3_ := Aside0.mk (below_step bl hb); have n4_ := Aside0.mk (hbox); have n5_ := Aside0.mk ((by rw [hg]; exact (below_size bl) : w.heap.size ≤ gb274)); have n6_ := Aside0.mk ((by rw [hg]; exact (below_size bl) : w.heap.size ≤ gb274)); have n7_ := Aside0.mk ((by rw [hg]; exact Nat.ne_of_lt (blk_lt (bk BK272.out)) : gb272 ≠ gb274)); have n8_ := Aside0.mk ((by rw [hg]; exact Nat.ne_of_gt (blk_lt (bk BK272.out)) : gb274 ≠ gb272)); have n9_ := Aside0.mk ((by rw [hg]; exact Nat.ne_of_lt (blk_lt (bk BK273.out)) : gb273 ≠ gb274)); have n10_ := Aside0.mk ((by rw [hg]; exact Nat.ne_of_gt (blk_lt (bk BK273.out)) : gb274 ≠ gb273)); clear HO268; clear BK272; clear BK273; clear HB; have HO268 := n0_; have BK272 := n1_; have BK273 := n2_; have HB := n3_; have BK274 := n4_; have GW274 := n5_; have GE274 := n6_; have NB272_274 := n7_; have NB274_272 := n8_; have NB273_274 := n9_; have NB274_273 := n10_; clear n0_ n1_ n2_ n3_ n4_ n5_ n6_ n7_ n8_ n9_ n10_; clear hb hbox hg; have hnb15 := NB273_272.out; have hnc15 := NB272_273.out; have hnb16 := NB273_274.out; have hnc16 := NB274_273.out; have hcz17_0 : w14.cell? ⟨gb273, 0, none⟩ = some (.string (⟨#[]⟩ : ByteArray)) := (blk_cell BK273.out 0).trans rfl; have hcz17_1 : w14.cell? ⟨gb273, 1, none⟩ = some (.string (⟨#[]⟩ : ByteArray)) := (blk_cell BK273.out 1).trans rfl; have hfz17_0 := blk_frozen BK273.out 0; have hfz17_1 := blk_frozen BK273.out 1; have hnb18 := NB274_272.out; have hnc18 := NB272_274.out; have hcz19_0 : w14.cell? ⟨gb274, 0, none⟩ = some (.string (⟨#[]⟩ : ByteArray)) := (blk_cell BK274.out 0).trans rfl; have hcz19_1 : w14.cell? ⟨gb274, 1, none⟩ = some (.string (⟨#[]⟩ : ByteArray)) := (blk_cell BK274.out 1).trans rfl; have hfz19_0 := blk_frozen BK274.out 0; have hfz19_1 := blk_frozen BK274.out 1; have hcz20_0 : w14.cell? ⟨gb272, 0, none⟩ = some (.slice Ao11 t266.length co11) := (blk_cell BK272.out 0).trans rfl; have hcz20_1 : w14.cell? ⟨gb272, 1, none⟩ = some (.string t269) := (blk_cell BK272.out 1).trans rfl; have hcz20_2 : w14.cell? ⟨gb272, 2, none⟩ = some (.bool t270) := (blk_cell BK272.out 2).trans rfl; have hfz20_0 := blk_frozen BK272.out 0; have hfz20_1 := blk_frozen BK272.out 1; have hfz20_2 := blk_frozen BK272.out 2) | ((with_reducible refine gate_dst (N := 17) rfl ?_); (try (refine gate_guard (by rfl) ?_; dsimp only)); refine Kd.R_lit k50 _ 50 ?hg (N := 17) ?hd (xs := ([(⟨(⟨#[65, 110, 110]⟩ : ByteArray), (⟨#[72, 79, 77, 69, 46, 111, 114, 103]⟩ : ByteArray)⟩ : S50), (⟨(⟨#[98, 111, 98]⟩ : ByteArray), (⟨#[120]⟩ : ByteArray)⟩ : S50)] : List (S50))) (inner := [.string (⟨#[65, 110, 110]⟩ : ByteArray), .string (⟨#[72, 79, 77, 69, 46, 111, 114, 103]⟩ : ByteArray), .string (⟨#[98, 111, 98]⟩ : ByteArray), .string (⟨#[120]⟩ : ByteArray)]) (ok := fun _ => True) (okp := fun _ => True) ?hr ?hp (fun _ hk => hk) trivial (Below.refl _ _) (Nat.le_refl _) (by simp) ?_; (case hd => rfl); (case hg => rfl); (case hr => first | (go_simp; done) | (go_simp; rfl)); (case hp => exact (Reps.c2 (show Kd.M k50 _ _ _ (⟨(⟨#[65, 110, 110]⟩ : ByteArray), (⟨#[72, 79, 77, 69, 46, 111, 114, 103]⟩ : ByteArray)⟩ : S50) [.string (⟨#[65, 110, 110]⟩ : ByteArray), .string (⟨#[72, 79, 77, 69, 46, 111, 114, 103]⟩ : ByteArray)] from (k50_mkM _ _ _ (⟨(⟨#[65, 110, 110]⟩ : ByteArray), (⟨#[72, 79, 77, 69, 46, 111, 114, 103]⟩ : ByteArray)⟩ : S50) )) (Reps.c2 (show Kd.M k50 _ _ _ (⟨(⟨#[98, 111, 98]⟩ : ByteArray), (⟨#[120]⟩ : ByteArray)⟩ : S50) [.string (⟨#[98, 111, 98]⟩ : ByteArray), .string (⟨#[120]⟩ : ByteArray)] from (k50_mkM _ _ _ (⟨(⟨#[98, 111, 98]⟩ : ByteArray), (⟨#[120]⟩ : ByteArray)⟩ : S50) )) (Reps.none _ _)))); intro v276 w21 ho22 hb hg_ hnew_; clear hg_ hnew_; (first | rw [← Ny275.out] at ho22 | (simp only [Int.reduceToNat] at ho22; rw [← Ny275.out] at ho22)); have n0_ := Aside0.mk (Kd.R_below (by (with_reducible repeat (first | apply Kd.R_alloc | apply Kd.R_drewN | apply Kd.R_drew)); exact (Kd.R_mono (Kd.R_mono (Kd.R_far (p := ⟨gb274, 1, none⟩) (Kd.R_far (p := ⟨gb274, 0, none⟩) (Kd.R_far (p := ⟨gb273, 1, none⟩) (Kd.R_far (p := ⟨gb273, 0, none⟩) (Kd.R_types (Kd.R_types HO268.out BK273.out (by decide)) BK274.out (by decide)) (fun _ hk => hk.1.2) (.string (⟨#[65, 110, 110]⟩ : ByteArray))) (fun _ hk => hk.1.2) (.string (⟨#[72, 79, 77, 69, 46, 111, 114, 103]⟩ : ByteArray))) (fun _ hk => hk.2) (.string (⟨#[98, 111, 98]⟩ : ByteArray))) (fun _ hk => hk.2) (.string (⟨#[120]⟩ : ByteArray))) (fun _ h_ => h_.1)) (fun _ h_ => h_.1))) hb); have n1_ := Aside0.mk (Kd.R_lower (Kd.R_newB (Kd.R_newB ho22 (g := gb273) (o := .cells #[.string (⟨#[65, 110, 110]⟩ : ByteArray), .string (⟨#[72, 79, 77, 69, 46, 111, 114, 103]⟩ : ByteArray)] 50 (0, 0)) (by (with_reducible repeat (first | refine blk_drewN ?_ _ | refine blk_drew ?_ | refine blk_alloc ?_ _)); refine blk_far ?_ NB273_274.out _; (with_reducible repeat (first | refine blk_drewN ?_ _ | refine blk_drew ?_ | refine blk_alloc ?_ _)); refine blk_far ?_ NB273_274.out _; (with_reducible repeat (first | refine blk_drewN ?_ _ | refine blk_drew ?_ | refine blk_alloc ?_ _)); refine blk_put (cs := #[.string (⟨#[65, 110, 110]⟩ : ByteArray), .string (⟨#[]⟩ : ByteArray)]) ?_ 1 _ rfl; (with_reducible repeat (first | refine blk_drewN ?_ _ | refine blk_drew ?_ | refine blk_alloc ?_ _)); refine blk_put (cs := #[.string (⟨#[]⟩ : ByteArray), .string (⟨#[]⟩ : ByteArray)]) ?_ 0 _ rfl; (with_reducible repeat (first | refine blk_drewN ?_ _ | refine blk_drew ?_ | refine blk_alloc ?_ _)); exact BK273.out)) (g := gb274) (o := .cells #[.string (⟨#[98, 111, 98]⟩ : ByteArray), .string (⟨#[120]⟩ : ByteArray)] 50 (0, 0)) (by (with_reducible repeat (first | refine blk_drewN ?_ _ | refine blk_drew ?_ | refine blk_alloc ?_ _)); refine blk_put (cs := #[.string (⟨#[98, 111, 98]⟩ : ByteArray), .string (⟨#[]⟩ : ByteArray)]) ?_ 1 _ rfl; (with_reducible repeat (first | refine blk_drewN ?_ _ | refine blk_drew ?_ | refine blk_alloc ?_ _)); refine blk_put (cs := #[.string (⟨#[]⟩ : ByteArray), .string (⟨#[]⟩ : ByteArray)]) ?_ 0 _ rfl; (with_reducible repeat (first | refine blk_drewN ?_ _ | refine blk_drew ?_ | refine blk_alloc ?_ _)); refine blk_far ?_ NB274_273.out _; (with_reducible repeat (first | refine blk_drewN ?_ _ | refine blk_drew ?_ | refine blk_alloc ?_ _)); refine blk_far ?_ NB274_273.out _; (with_reducible repeat (first | refine blk_drewN ?_ _ | refine blk_drew ?_ | refine blk_alloc ?_ _)); exact BK274.out)) (below_size bl)); have n2_ := Aside0.mk (kb BK272.out hb); have n3_ := Aside0.mk (blk_below (g := gb273) (o := .cells #[.string (⟨#[65, 110, 110]⟩ : ByteArray), .string (⟨#[72, 79, 77, 69, 46, 111, 114, 103]⟩ : ByteArray)] 50 (0, 0)) (by (with_reducible repeat (first | refine blk_drewN ?_ _ | refine blk_drew ?_ | refine blk_alloc ?_ _)); refine blk_far ?_ NB273_274.out _; (with_reducible repeat (first | refine blk_drewN ?_ _ | refine blk_drew ?_ | refine blk_alloc ?_ _)); refine blk_far ?_ NB273_274.out _; (with_reducible repeat (first | refine blk_drewN ?_ _ | refine blk_drew ?_ | refine blk_alloc ?_ _)); refine blk_put (cs := #[.string (⟨#[65, 110, 110]⟩ : ByteArray), .string (⟨#[]⟩ : ByteArray)]) ?_ 1 _ rfl; (with_reducible repeat (first | refine blk_drewN ?_ _ | refine blk_drew ?_ | refine blk_alloc ?_ _)); refine blk_put (cs := #[.string (⟨#[]⟩ : ByteArray), .string (⟨#[]⟩ : ByteArray)]) ?_ 0 _ rfl; (with_reducible repeat (first | refine blk_drewN ?_ _ | refine blk_drew ?_ | refine blk_alloc ?_ _)); exact BK273.out) hb); have n4_ := Aside0.mk (blk_below (g := gb274) (o := .cells #[.string (⟨#[98, 111, 98]⟩ : ByteArray), .string (⟨#[120]⟩ : ByteArray)] 50 (0, 0)) (by (with_reducible repeat (first | refine blk_drewN ?_ _ | refine blk_drew ?_ | refine blk_alloc ?_ _)); refine blk_put (cs := #[.string (⟨#[98, 111, 98]⟩ : ByteArray), .string (⟨#[]⟩ : ByteArray)]) ?_ 1 _ rfl; (with_reducible repeat (first | refine blk_drewN ?_ _ | refine blk_drew ?_ | refine blk_alloc ?_ _)); refine blk_put (cs := #[.string (⟨#[]⟩ : ByteArray), .string (⟨#[]⟩ : ByteArray)]) ?_ 0 _ rfl; (with_reducible repeat (first | refine blk_drewN ?_ _ | refine blk_drew ?_ | refine blk_alloc ?_ _)); refine blk_far ?_ NB274_273.out _; (with_reducible repeat (first | refine blk_drewN ?_ _ | refine blk_drew ?_ | refine blk_alloc ?_ _)); refine blk_far ?_ NB274_273.out _; (with_reducible repeat (first | refine blk_drewN ?_ _ | refine blk_drew ?_ | refine blk_alloc ?_ _)); exact BK274.out) hb); have n5_ := Aside0.mk (below_step bl hb); clear HO268; clear BK272; clear BK273; clear BK274; clear HB; have HO268 := n0_; have HO277 := n1_; have BK272 := n2_; have BK273 := n3_; have BK274 := n4_; have HB := n5_; clear n0_ n1_ n2_ n3_ n4_ n5_; clear hb ho22; obtain ⟨Ao23, co23, eo23⟩ := Kd.R_slice HO277.out; subst eo23) | (go_at_call 11; (with_reducible refine (guard_Check.calls k _ _ t266 t269 t270 _ _ y275 t278 t281 _ ?side1 ?side2 ?side3 ?side4 ?side5 A2.out).mono ?_); (case side1 => repeat (first | exact (Kd.R_reads' HO268.out).2.2 | (with_reducible refine Kd.C_alloc ?_ _) | (with_reducible refine Kd.C_drewN ?_ _) | (with_reducible refine Kd.C_drew ?_))); (case side2 => exact (Kd.R_reads' HO268.out).2.1); (case side3 => repeat (first | exact (Kd.R_reads' HO277.out).2.2 | (with_reducible refine Kd.C_alloc ?_ _) | (with_reducible refine Kd.C_drewN ?_ _) | (with_reducible refine Kd.C_drew ?_))); (case side4 => exact (Kd.R_reads' HO277.out).2.1); (case side5 => exact Glob.below HG.out bl); rintro e w24 ⟨v279, v282, rfl, ho0, ho1, hb⟩; have n0_ := Aside0.mk (Kd.R_below (kr HO268.out) hb); have n1_ := Aside0.mk (Kd.R_elder' (kr HO277.out) (Kd.R_base ho0) hb); have n2_ := Aside0.mk (Kd.R_lower (Kd.R_newB (Kd.R_newB (Kd.R_new' ho0 (Kd.R_lt (kr HO277.out))) (g := gb273) (o := .cells #[.string (⟨#[65, 110, 110]⟩ : ByteArray), .string (⟨#[72, 79, 77, 69, 46, 111, 114, 103]⟩ : ByteArray)] 50 (0, 0)) (bk BK273.out)) (g := gb274) (o := .cells #[.string (⟨#[98, 111, 98]⟩ : ByteArray), .string (⟨#[120]⟩ : ByteArray)] 50 (0, 0)) (bk BK274.out)) (below_size bl)); have n3_ := Aside0.mk (Kd.R_lower ho1 (below_size bl)); have n4_ := Aside0.mk (kb BK272.out hb); have n5_ := Aside0.mk (kb BK273.out hb); have n6_ := Aside0.mk (kb BK274.out hb); have n7_ := Aside0.mk (below_step bl hb); clear HO268; clear HO277; clear BK272; clear BK273; clear BK274; clear HB; have HO268 := n0_; have HO277 := n1_; have HO280 := n2_; have HO283 := n3_; have BK272 := n4_; have BK273 := n5_; have BK274 := n6_; have HB := n7_; clear n0_ n1_ n2_ n3_ n4_ n5_ n6_ n7_; (try clear hb); (try clear hb2); (try clear hk); (try clear hi); (try clear ho0); (try clear ho1); obtain ⟨Ao25, co25, eo25⟩ := Kd.R_slice HO280.out; subst eo25; have p284 : 0 ≤ (0 : Int) := (by omega); have q284 : 0 < (t278.length : Int) := od; obtain ⟨ad284, e284, hx284_0, hx284_1⟩ := at_T50 (Kd.R_reads' HO280.out).2.2 0 p284 q284; cases e284; have qi284 : (0 < t278.length) = True := eq_true (by omega); (try rw [show ((0 : Int)).toNat = 0 from rfl] at hx284_0); (try rw [show 0 * 2 = 0 from rfl] at hx284_0); (try rw [Addr.add_zero'] at hx284_0); (try rw [show ((0 : Int)).toNat = 0 from rfl] at hx284_1); (try rw [show 0 * 2 = 0 from rfl] at hx284_1); (try rw [Addr.add_zero'] at hx284_1); replace p284 := eq_true p284; replace q284 := eq_true q284; have hcz26_0 : w24.cell? ⟨gb274, 0, none⟩ = some (.string (⟨#[98, 111, 98]⟩ : ByteArray)) := (blk_cell BK274.out 0).trans rfl; have hcz26_1 : w24.cell? ⟨gb274, 1, none⟩ = some (.string (⟨#[120]⟩ : ByteArray)) := (blk_cell BK274.out 1).trans rfl; have hfz26_0 := blk_frozen BK274.out 0; have hfz26_1 := blk_frozen BK274.out 1; obtain ⟨Ao27, co27, eo27⟩ := Kd.R_slice HO283.out; subst eo27; have p285 : 0 ≤ (0 : Int) := (by omega); have q285 : 0 < (t281.length : Int) := od; obtain ⟨ad285, e285, hx285_0, hx285_1, hx285_2, hx285_3⟩ := at_T52 (Kd.R_reads' HO283.out).2.2 0 p285 q285; cases e285; have qi285 : (0 < t281.length) = True := eq_true (by omega); (try rw [show ((0 : Int)).toNat = 0 from rfl] at hx285_0); (try rw [show 0 * 4 = 0 from rfl] at hx285_0); (try rw [Addr.add_zero'] at hx285_0); (try rw [show ((0 : Int)).toNat = 0 from rfl] at hx285_1); (try rw [show 0 * 4 = 0 from rfl] at hx285_1); (try rw [Addr.add_zero'] at hx285_1); (try rw [show ((0 : Int)).toNat = 0 from rfl] at hx285_2); (try rw [show 0 * 4 = 0 from rfl] at hx285_2); (try rw [Addr.add_zero'] at hx285_2); (try rw [show ((0 : Int)).toNat = 0 from rfl] at hx285_3); (try rw [show 0 * 4 = 0 from rfl] at hx285_3); (try rw [Addr.add_zero'] at hx285_3); replace p285 := eq_true p285; replace q285 := eq_true q285; have hcz28_0 : w24.cell? ⟨gb273, 0, none⟩ = some (.string (⟨#[65, 110, 110]⟩ : ByteArray)) := (blk_cell BK273.out 0).trans rfl; have hcz28_1 : w24.cell? ⟨gb273, 1, none⟩ = some (.string (⟨#[72, 79, 77, 69, 46, 111, 114, 103]⟩ : ByteArray)) := (blk_cell BK273.out 1).trans rfl; have hfz28_0 := blk_frozen BK273.out 0; have hfz28_1 := blk_frozen BK273.out 1)))
       go_ret
       exact ⟨by first | rfl | (simp [bneNil]; done) | (simp [errW_none, errW_some] <;> rfl) | (simp [*, errW_none, errW_some] <;> rfl), by repeat (first | (with_reducible first | exact HB.out | apply below_alloc | apply pw_below_drewN | apply below_drew1 | refine below_set ?_ GE272.out | refine below_set ?_ GE273.out | refine below_set ?_ GE274.out) | exact HB.out)⟩
      ·rw [if_neg c8] at H
       exact absurd H (by simp)
     ·rw [if_neg c7] at H
      have c7b0 : ((t281.length : Int) == 1) = false := beq_eq_false_iff_ne.mpr c7
      have c7b1 : ((t281.length : Int) != 1) = true := bne_iff_ne.mpr c7
      exact absurd ((Option.some.inj H).trans HT_r.out) (by decide)
    ·rw [if_neg c6] at H
     have c6b0 : ((((rd_T50 t278 0).f0).toList) == ([98, 111, 98] : List UInt8) && ((((rd_T50 t278 0).f1).toList) == ([120] : List UInt8))) = false := by simpa using c6
     (try (have c6b1 : decide ((((rd_T50 t278 0).f0).toList) = ([98, 111, 98] : List UInt8) && ((((rd_T50 t278 0).f1).toList) == ([120] : List UInt8))) = false := by simpa using c6))
     (try (have c6b2 : ((((rd_T50 t278 0).f0).toList) == ([98, 111, 98] : List UInt8) && ((((rd_T50 t278 0).f1).toList) == ([120] : List UInt8))) = false := by simpa using c6))
     (try (have c6b3 : ¬ ((((rd_T50 t278 0).f0).toList) = ([98, 111, 98] : List UInt8) && ((((rd_T50 t278 0).f1).toList) == ([120] : List UInt8))) := by simpa using c6))
     clear c6
     exact absurd ((Option.some.inj H).trans HT_r.out) (by decide)
   ·rw [if_neg c5] at H
    exact absurd H (by simp)
  ·rw [if_neg c4] at H
   have c4b0 : ((t278.length : Int) == 1) = false := beq_eq_false_iff_ne.mpr c4
   have c4b1 : ((t278.length : Int) != 1) = true := bne_iff_ne.mpr c4
   exact absurd ((Option.some.inj H).trans HT_r.out) (by decide)
 ·rw [if_neg c3] at H
  have c3b0 : (t271 == 0) = false := beq_eq_false_iff_ne.mpr c3
  have c3b1 : (t271 != 0) = true := bne_iff_ne.mpr c3
  exact absurd ((Option.some.inj H).trans HT_r.out) (by decide)

/-! ### addr_MayDomain: function 51 -/
def addr_MayDomain.f (a0 : ByteArray) : Option (Bool) := (addr_domain.f a0).bind fun t286 => (some (t286 == 0))
set_option maxHeartbeats 8000000 in
set_option maxRecDepth 100000 in
theorem addr_MayDomain.calls (a0 : ByteArray) (r : Bool) (w : World) (hG : Glob w) (h : addr_MayDomain.f a0 = some r) :
    Calls Tryz.prog 51 #[.string a0] w fun e w' => e = .returned (.bool r) ∧ Below w.heap.size w w' := by
  have HB := Aside0.mk (Below.refl w.heap.size w)
  have HG := Aside0.mk hG
  clear hG
  have H : ((addr_domain.f a0).bind fun t286 => (some (t286 == 0))) = some r := h
  clear h
  replace H := Option.bind_eq_some_iff.mp H
  obtain ⟨t286, A20, H⟩ := H
  replace H : (some (t286 == 0)) = some r := H
  have A2 := Aside0.mk A20
  clear A20
  obtain rfl := Option.some.inj H
  go_enter Tryz.func51, Tryz.ntmps51
  go_wp2_with (first | ((with_reducible refine gate_callee (f := 81) rfl ?_); refine goesL_ (some 4) rfl rfl Tryz.func81 (by kernel_rfl) rfl #[.string a0] rfl (by (try simp only [List.map_toArray, List.map_cons, List.map_nil]); first | done | rfl | (simp only [List.length_drop, List.length_take]; rfl)) ?_; (with_reducible refine (addr_domain.calls a0 t286 _ ?side1 A2.out).mono ?_); (case side1 => exact Glob.below HG.out (by repeat (first | (with_reducible first | exact HB.out | apply below_alloc | apply pw_below_drewN | apply below_drew1) | exact HB.out))); rintro e w3 ⟨rfl, hb⟩; refine ⟨_, rfl, ?_⟩; have n0_ := Aside0.mk (below_step (by repeat (first | (with_reducible first | exact HB.out | apply below_alloc | apply pw_below_drewN | apply below_drew1) | exact HB.out)) hb); clear HB; have HB := n0_; clear n0_; (try clear hb); (try clear hb2); (try clear hk); (try clear hi)))
  go_ret
  exact ⟨by first | rfl | (simp [bneNil]; done) | (simp [errW_none, errW_some] <;> rfl) | (simp [*, errW_none, errW_some] <;> rfl), by repeat (first | (with_reducible first | exact HB.out | apply below_alloc | apply pw_below_drewN | apply below_drew1) | exact HB.out)⟩

/-! ### head_fold: function 144 -/
mutual
def head_fold.l0 : Nat → ByteArray → Int → Int → Option (Int)
 | 0, _, _, _ => none
 | k + 1, x0, x5, x6 => if x6 < (x0.size : Int) then (if 0 ≤ x6 then (if (bt x0 x6) = 32 then (if 0 ≤ (wrap64 (x6 - 1)) then (if (wrap64 (x6 - 1)) < (x0.size : Int) then (if (bt x0 (wrap64 (x6 - 1))) = 44 then (if x5 ≥ 0 then (head_fold.j1 k x0 x5 x6 (decide (x6 > 78))) else (head_fold.j1 k x0 x5 x6 false)) else (head_fold.j1 k x0 x5 x6 true)) else (none)) else (none)) else (head_fold.j1 k x0 x5 x6 true)) else (none)) else (some x5)
def head_fold.j1 : Nat → ByteArray → Int → Int → Bool → Option (Int)
 | 0, _, _, _, _ => none
 | k + 1, x0, x5, x6, x35 => if x35 = true then (head_fold.l0 k x0 x5 (wrap64 (x6 + 1))) else (if x6 > 78 then (some x6) else (head_fold.l0 k x0 x6 (wrap64 (x6 + 1))))
end
def head_fold.f (k : Nat) (a0 : ByteArray) (a1 : Int) : Option (Int) := if (a0.size : Int) ≤ 78 then (some (-1)) else (head_fold.l0 k a0 (-1) a1)
theorem head_fold.mono_l : ∀ k, (∀ y0 y1 y2, LeO (head_fold.l0 k y0 y1 y2) (head_fold.l0 (k + 1) y0 y1 y2)) ∧ (∀ y0 y1 y2 y3, LeO (head_fold.j1 k y0 y1 y2 y3) (head_fold.j1 (k + 1) y0 y1 y2 y3))
 | 0 => ⟨fun _ _ _ r h => by simp [head_fold.l0] at h, fun _ _ _ _ r h => by simp [head_fold.j1] at h⟩
 | k + 1 => by
  obtain ⟨ih0, ih1⟩ := head_fold.mono_l k
  refine ⟨?_, ?_⟩
  ·intro y0 y1 y2
   unfold head_fold.l0
   repeat' first
   | (with_reducible exact ih0 _ _ _)
   | (with_reducible exact ih1 _ _ _ _)
   | (with_reducible exact LeO.refl _)
   | (with_reducible exact LeO.none _)
   | (with_reducible refine LeO.ite ?_ ?_)
   | (with_reducible refine LeO.bind ?_ (fun _ => ?_))
   | exact ih0 _ _ _
   | exact ih1 _ _ _ _
   | exact LeO.none _
   | refine LeO.ite ?_ ?_
   | refine LeO.bind ?_ (fun _ => ?_)
  ·intro y0 y1 y2 y3
   unfold head_fold.j1
   repeat' first
   | (with_reducible exact ih0 _ _ _)
   | (with_reducible exact ih1 _ _ _ _)
   | (with_reducible exact LeO.refl _)
   | (with_reducible exact LeO.none _)
   | (with_reducible refine LeO.ite ?_ ?_)
   | (with_reducible refine LeO.bind ?_ (fun _ => ?_))
   | exact ih0 _ _ _
   | exact ih1 _ _ _ _
   | exact LeO.none _
   | refine LeO.ite ?_ ?_
   | refine LeO.bind ?_ (fun _ => ?_)
theorem head_fold.mono : ∀ a0 a1 k, LeO (head_fold.f k a0 a1) (head_fold.f (k + 1) a0 a1) := by
 intro a0 a1 k
 obtain ⟨ih0, ih1⟩ := head_fold.mono_l k
 unfold head_fold.f
 repeat' first
   | (with_reducible exact ih0 _ _ _)
   | (with_reducible exact ih1 _ _ _ _)
   | (with_reducible exact LeO.refl _)
   | (with_reducible exact LeO.none _)
   | (with_reducible refine LeO.ite ?_ ?_)
   | (with_reducible refine LeO.bind ?_ (fun _ => ?_))
   | exact ih0 _ _ _
   | exact ih1 _ _ _ _
   | exact LeO.none _
   | refine LeO.ite ?_ ?_
   | refine LeO.bind ?_ (fun _ => ?_)
set_option maxHeartbeats 8000000 in
set_option maxRecDepth 100000 in
theorem head_fold.calls (k : Nat) (a0 : ByteArray) (a1 : Int) (r : Int) (w : World) (h : head_fold.f k a0 a1 = some r) :
  Calls Tryz.prog 144 #[.string a0, .int .i64 a1] w fun e w' => e = .returned (.int .i64 r) ∧ Drawn0 w w' := by
 have H : (if (a0.size : Int) ≤ 78 then (some (-1)) else (head_fold.l0 k a0 (-1) a1)) = some r := h
 clear h
 by_cases c3 : (a0.size : Int) ≤ 78
 ·rw [if_pos c3] at H
  have c3b0 : decide ((a0.size : Int) ≤ 78) = true := decide_eq_true c3
  have c3b1 : decide (a0.size ≤ 78) = true := decide_eq_true (by omega)
  clear c3
  obtain rfl := Option.some.inj H
  go_enter Tryz.func144, Tryz.ntmps144
  go_wp2
  go_ret
  exact ⟨by first | rfl | (simp [bneNil]; done) | (simp; done) | (simp [*]; done), by repeat (first | exact Drawn0.refl _ | apply Drawn0.step)⟩
 ·rw [if_neg c3] at H
  have c3b0 : decide ((a0.size : Int) ≤ 78) = false := decide_eq_false c3
  have c3b1 : decide (a0.size ≤ 78) = false := decide_eq_false (by omega)
  clear c3
  have H' := Aside0.mk H
  clear H
  go_enter Tryz.func144, Tryz.ntmps144
  go_wp2
  go_loopg [5, 6] k (fun kq v5 v6 w' => ∃ (x5_1 : Int) (x6_1 : Int), v5 = .int .i64 x5_1 ∧ v6 = .int .i64 x6_1 ∧ Aside0 (head_fold.l0 kq a0 x5_1 x6_1 = some r) ∧ Aside0 (kq ≤ k) ∧ Drawn0 w w')
  case atStart => exact ⟨((-1)), (a1), (by first | rfl | (simp; done) | (simp [*]; done)), (by first | rfl | (simp; done) | (simp [*]; done)), H', ⟨Nat.le_refl _⟩, by repeat (first | exact Drawn0.refl _ | apply Drawn0.step)⟩
  case round =>
   clear H'
   try clear c1
   try clear p2
   try clear c3
   try clear c3b0
   try clear c3b1
   obtain ⟨x5_1, x6_1, rfl, rfl, HA, HK1, ⟨m1, rfl⟩⟩ := hrel
   cases gk with
   | zero => exact absurd HA.out (by simp [head_fold.l0])
   | succ k1 =>
    have H := HA.out
    clear HA
    simp only [head_fold.l0] at H
    by_cases c4 : x6_1 < (a0.size : Int)
    ·rw [if_pos c4] at H
     have c4b0 : decide (x6_1 < (a0.size : Int)) = true := decide_eq_true c4
     clear c4
     have HC5 := Aside0.mk H
     clear H
     go_upto_region 7 with (fail)
     go_cut [35] (fun v35 wc => ∃ (kq : Nat) (x35_4 : Bool), v35 = .bool x35_4 ∧ Aside0 (head_fold.j1 kq a0 x5_1 x6_1 x35_4 = some r) ∧ Aside0 (kq ≤ k1) ∧ Drawn0 w wc)
     case first =>
      have H := HC5.out
      clear HC5
      by_cases c6 : 0 ≤ x6_1
      ·rw [if_pos c6] at H
       have c6b0 : decide (0 ≤ x6_1) = true := decide_eq_true c6
       clear c6
       (first | rw [c6b0] | (simp only [i64_w, i32_w]; rw [c6b0]) | skip)
       by_cases c8 : (bt a0 x6_1) = 32
       ·rw [if_pos c8] at H
        have c8b0 : ((bt a0 x6_1) == 32) = true := beq_iff_eq.mpr c8
        have c8b1 : ((bt a0 x6_1) != 32) = false := bne_eq_false_iff_eq.mpr c8
        clear c8
        obtain ⟨ji9, hji9⟩ : ∃ j_ : Int, (wrap64 (x6_1 - 1)) = j_ := ⟨_, rfl⟩
        replace H : (if 0 ≤ (ji9) then (if (ji9) < (a0.size : Int) then (if (bt a0 (ji9)) = 44 then (if x5_1 ≥ 0 then (head_fold.j1 k1 a0 x5_1 x6_1 (decide (x6_1 > 78))) else (head_fold.j1 k1 a0 x5_1 x6_1 false)) else (head_fold.j1 k1 a0 x5_1 x6_1 true)) else (none)) else (none)) = some r := by first | (rw [hji9] at H; exact H) | (simp only [hji9] at H ⊢; exact H)
        have hji9w : (IntKind.i64.wrap (x6_1 - 1)) = ji9 := (i64_w _).trans hji9
        by_cases c10 : 0 ≤ (ji9)
        ·rw [if_pos c10] at H
         have c10b0 : decide (0 ≤ (ji9)) = true := decide_eq_true c10
         clear c10
         by_cases c11 : (ji9) < (a0.size : Int)
         ·rw [if_pos c11] at H
          have c11b0 : decide ((ji9) < (a0.size : Int)) = true := decide_eq_true c11
          clear c11
          by_cases c13 : (bt a0 (ji9)) = 44
          ·rw [if_pos c13] at H
           have c13b0 : ((bt a0 (ji9)) == 44) = true := beq_iff_eq.mpr c13
           have c13b1 : ((bt a0 (ji9)) != 44) = false := bne_eq_false_iff_eq.mpr c13
           clear c13
           by_cases c14 : x5_1 ≥ 0
           ·rw [if_pos c14] at H
            have c14b0 : decide (0 ≤ x5_1) = true := decide_eq_true c14
            clear c14
            have H' := Aside0.mk H
            clear H
            have p7 : 0 ≤ (x6_1 : Int) := od
            have q7 : x6_1 < (a0.size : Int) := od
            have hx7 := bt_at a0 x6_1
            replace p7 := eq_true p7
            replace q7 := eq_true q7
            have p12 : 0 ≤ ((ji9) : Int) := od
            have q12 : (ji9) < (a0.size : Int) := od
            have hx12 := bt_at a0 (ji9)
            replace p12 := eq_true p12
            replace q12 := eq_true q12
            go_wp2
            go_meet
            case rel => exact ⟨_, (decide (x6_1 > 78)), (by first | rfl | (simp; done) | (simp [*]; done)), H', ⟨by have := HK1.out; first | omega | exact Nat.le_refl _⟩, by repeat (first | exact Drawn0.refl _ | apply Drawn0.step)⟩
           ·rw [if_neg c14] at H
            have c14b0 : decide (0 ≤ x5_1) = false := decide_eq_false c14
            clear c14
            have H' := Aside0.mk H
            clear H
            have p7 : 0 ≤ (x6_1 : Int) := od
            have q7 : x6_1 < (a0.size : Int) := od
            have hx7 := bt_at a0 x6_1
            replace p7 := eq_true p7
            replace q7 := eq_true q7
            have p12 : 0 ≤ ((ji9) : Int) := od
            have q12 : (ji9) < (a0.size : Int) := od
            have hx12 := bt_at a0 (ji9)
            replace p12 := eq_true p12
            replace q12 := eq_true q12
            go_wp2
            go_meet
            case rel => exact ⟨_, (false), (by first | rfl | (simp; done) | (simp [*]; done)), H', ⟨by have := HK1.out; first | omega | exact Nat.le_refl _⟩, by repeat (first | exact Drawn0.refl _ | apply Drawn0.step)⟩
          ·rw [if_neg c13] at H
           have c13b0 : ((bt a0 (ji9)) == 44) = false := beq_eq_false_iff_ne.mpr c13
           have c13b1 : ((bt a0 (ji9)) != 44) = true := bne_iff_ne.mpr c13
           have H' := Aside0.mk H
           clear H
           have p7 : 0 ≤ (x6_1 : Int) := od
           have q7 : x6_1 < (a0.size : Int) := od
           have hx7 := bt_at a0 x6_1
           replace p7 := eq_true p7
           replace q7 := eq_true q7
           have p12 : 0 ≤ ((ji9) : Int) := od
           have q12 : (ji9) < (a0.size : Int) := od
           have hx12 := bt_at a0 (ji9)
           replace p12 := eq_true p12
           replace q12 := eq_true q12
           go_wp2
           go_meet
           case rel => exact ⟨_, (true), (by first | rfl | (simp; done) | (simp [*]; done)), H', ⟨by have := HK1.out; first | omega | exact Nat.le_refl _⟩, by repeat (first | exact Drawn0.refl _ | apply Drawn0.step)⟩
         ·rw [if_neg c11] at H
          exact absurd H (by simp)
        ·rw [if_neg c10] at H
         exact absurd H (by simp)
       ·rw [if_neg c8] at H
        have c8b0 : ((bt a0 x6_1) == 32) = false := beq_eq_false_iff_ne.mpr c8
        have c8b1 : ((bt a0 x6_1) != 32) = true := bne_iff_ne.mpr c8
        have H' := Aside0.mk H
        clear H
        have p7 : 0 ≤ (x6_1 : Int) := od
        have q7 : x6_1 < (a0.size : Int) := od
        have hx7 := bt_at a0 x6_1
        replace p7 := eq_true p7
        replace q7 := eq_true q7
        go_wp2
        go_meet
        case rel => exact ⟨_, (true), (by first | rfl | (simp; done) | (simp [*]; done)), H', ⟨by have := HK1.out; first | omega | exact Nat.le_refl _⟩, by repeat (first | exact Drawn0.refl _ | apply Drawn0.step)⟩
      ·rw [if_neg c6] at H
       exact absurd H (by simp)
     case rest =>
      clear HC5
      try clear c1
      try clear p1
      try clear q1
      try clear hx1
      try clear p2
      try clear c3
      try clear c3b0
      try clear c3b1
      try clear c4
      try clear c4b0
      try clear c6
      try clear c6b0
      try clear p6
      try clear p7
      try clear q7
      try clear hx7
      try clear c8
      try clear c8b0
      try clear c8b1
      try clear c10
      try clear c10b0
      try clear c11
      try clear c11b0
      try clear p12
      try clear q12
      try clear hx12
      try clear c13
      try clear c13b0
      try clear c13b1
      try clear c14
      try clear c14b0
      try clear p12
      try clear p2
      try clear p7
      try clear q12
      try clear q7
      obtain ⟨kq, x35_4, rfl, HA, HJ4, ⟨mc4, rfl⟩⟩ := hcut
      cases kq with
      | zero => exact absurd HA.out (by simp [head_fold.j1])
      | succ kj4 =>
       have H := HA.out
       clear HA
       simp only [head_fold.j1] at H
       by_cases c15 : x35_4 = true
       ·subst c15
        have H1 : (head_fold.l0 kj4 a0 x5_1 (wrap64 (x6_1 + 1))) = some r := by rw [if_pos rfl] at H; exact H
        clear H
        have H := H1
        clear H1
        have H' := Aside0.mk H
        clear H
        go_wp2
        go_roundg kj4
        case measure => have := HK1.out; have := HJ4.out; omega
        case rel => exact ⟨(x5_1), (wrap64 (x6_1 + 1)), (by first | rfl | (simp; done) | (simp [*]; done)), (by first | rfl | (simp; done) | (simp [*]; done)), H', ⟨by have := HK1.out; have := HJ4.out; omega⟩, by repeat (first | exact Drawn0.refl _ | apply Drawn0.step)⟩
       ·replace c15 := Bool.eq_false_iff.mpr c15
        subst c15
        have H1 : (if x6_1 > 78 then (some x6_1) else (head_fold.l0 kj4 a0 x6_1 (wrap64 (x6_1 + 1)))) = some r := by rw [if_neg (show ¬ (false = true) by decide)] at H; exact H
        clear H
        have H := H1
        clear H1
        by_cases c16 : x6_1 > 78
        ·rw [if_pos c16] at H
         have c16b0 : decide (78 < x6_1) = true := decide_eq_true c16
         clear c16
         obtain rfl := Option.some.inj H
         go_wp2
         go_ret
         exact ⟨by first | rfl | (simp [bneNil]; done) | (simp; done) | (simp [*]; done), by repeat (first | exact Drawn0.refl _ | apply Drawn0.step)⟩
        ·rw [if_neg c16] at H
         have c16b0 : decide (78 < x6_1) = false := decide_eq_false c16
         clear c16
         have H' := Aside0.mk H
         clear H
         go_wp2
         go_roundg kj4
         case measure => have := HK1.out; have := HJ4.out; omega
         case rel => exact ⟨(x6_1), (wrap64 (x6_1 + 1)), (by first | rfl | (simp; done) | (simp [*]; done)), (by first | rfl | (simp; done) | (simp [*]; done)), H', ⟨by have := HK1.out; have := HJ4.out; omega⟩, by repeat (first | exact Drawn0.refl _ | apply Drawn0.step)⟩
    ·rw [if_neg c4] at H
     have c4b0 : decide (x6_1 < (a0.size : Int)) = false := decide_eq_false c4
     clear c4
     obtain rfl := Option.some.inj H
     go_wp2
     go_ret
     exact ⟨by first | rfl | (simp [bneNil]; done) | (simp; done) | (simp [*]; done), by repeat (first | exact Drawn0.refl _ | apply Drawn0.step)⟩

/-! ### head_Lay: function 94 -/
mutual
def head_Lay.j0 : Nat → ByteArray → ByteArray → Bool → Option (ByteArray × ByteArray × ByteArray × Int)
 | 0, _, _, _ => none
 | k + 1, x0, x1, x19 => if x19 = true then (some ((⟨#[]⟩ : ByteArray), (⟨#[]⟩ : ByteArray), (⟨#[]⟩ : ByteArray), 5)) else (if x0.size + 2 ≤ 9223372036854775807 then (if (x0 ++ (⟨#[58, 32]⟩ : ByteArray)).size + x1.size ≤ 9223372036854775807 then ((head_fold.f k ((x0 ++ (⟨#[58, 32]⟩ : ByteArray)) ++ x1) (wrap64 ((x0.size : Int) + 3))).bind fun t290 => (head_Lay.l0 k ([] : List ByteArray) ((x0 ++ (⟨#[58, 32]⟩ : ByteArray)) ++ x1) t290)) else (none)) else (none))
def head_Lay.l0 : Nat → List ByteArray → ByteArray → Int → Option (ByteArray × ByteArray × ByteArray × Int)
 | 0, _, _, _ => none
 | k + 1, x6, x7, x9 => if x9 ≥ 0 then (if 0 ≤ x9 then (if x9 ≤ (x7.size : Int) then (if x6.length < 8796093022208 then ((head_fold.f k (x7.extract (x9 : Int).toNat x7.size) 2).bind fun t294 => (head_Lay.l0 k (x6 ++ [x7.extract 0 (x9 : Int).toNat]) (x7.extract (x9 : Int).toNat x7.size) t294)) else (none)) else (none)) else (none)) else (if x6.length < 8796093022208 then ((head_field.f k (x6 ++ [x7])).bind fun bt298 => (some (bt298.1, bt298.2.1, bt298.2.2.1, 0))) else (none))
end
def head_Lay.f (k : Nat) (a0 : ByteArray) (a1 : ByteArray) : Option (ByteArray × ByteArray × ByteArray × Int) := (head_named.f k a0).bind fun t288 => (if t288 = true then ((head_byteful.f k a1).bind fun t289 => (head_Lay.j0 k a0 a1 (!t289))) else (head_Lay.j0 k a0 a1 true))
theorem head_Lay.mono_l : ∀ k, (∀ y0 y1 y2, LeO (head_Lay.j0 k y0 y1 y2) (head_Lay.j0 (k + 1) y0 y1 y2)) ∧ (∀ y0 y1 y2, LeO (head_Lay.l0 k y0 y1 y2) (head_Lay.l0 (k + 1) y0 y1 y2))
 | 0 => ⟨fun _ _ _ r h => by simp [head_Lay.j0] at h, fun _ _ _ r h => by simp [head_Lay.l0] at h⟩
 | k + 1 => by
  obtain ⟨ih0, ih1⟩ := head_Lay.mono_l k
  refine ⟨?_, ?_⟩
  ·intro y0 y1 y2
   unfold head_Lay.j0
   repeat' first
   | (with_reducible exact ih0 _ _ _)
   | (with_reducible exact ih1 _ _ _)
   | (with_reducible exact head_byteful.mono _ _)
   | (with_reducible exact head_field.mono _ _)
   | (with_reducible exact head_fold.mono _ _ _)
   | (with_reducible exact head_named.mono _ _)
   | (with_reducible exact LeO.refl _)
   | (with_reducible exact LeO.none _)
   | (with_reducible refine LeO.ite ?_ ?_)
   | (with_reducible refine LeO.bind ?_ (fun _ => ?_))
   | exact ih0 _ _ _
   | exact ih1 _ _ _
   | exact head_byteful.mono _ _
   | exact head_field.mono _ _
   | exact head_fold.mono _ _ _
   | exact head_named.mono _ _
   | exact LeO.none _
   | refine LeO.ite ?_ ?_
   | refine LeO.bind ?_ (fun _ => ?_)
  ·intro y0 y1 y2
   unfold head_Lay.l0
   repeat' first
   | (with_reducible exact ih0 _ _ _)
   | (with_reducible exact ih1 _ _ _)
   | (with_reducible exact head_byteful.mono _ _)
   | (with_reducible exact head_field.mono _ _)
   | (with_reducible exact head_fold.mono _ _ _)
   | (with_reducible exact head_named.mono _ _)
   | (with_reducible exact LeO.refl _)
   | (with_reducible exact LeO.none _)
   | (with_reducible refine LeO.ite ?_ ?_)
   | (with_reducible refine LeO.bind ?_ (fun _ => ?_))
   | exact ih0 _ _ _
   | exact ih1 _ _ _
   | exact head_byteful.mono _ _
   | exact head_field.mono _ _
   | exact head_fold.mono _ _ _
   | exact head_named.mono _ _
   | exact LeO.none _
   | refine LeO.ite ?_ ?_
   | refine LeO.bind ?_ (fun _ => ?_)
theorem head_Lay.mono : ∀ a0 a1 k, LeO (head_Lay.f k a0 a1) (head_Lay.f (k + 1) a0 a1) := by
 intro a0 a1 k
 obtain ⟨ih0, ih1⟩ := head_Lay.mono_l k
 unfold head_Lay.f
 repeat' first
   | (with_reducible exact ih0 _ _ _)
   | (with_reducible exact ih1 _ _ _)
   | (with_reducible exact head_byteful.mono _ _)
   | (with_reducible exact head_field.mono _ _)
   | (with_reducible exact head_fold.mono _ _ _)
   | (with_reducible exact head_named.mono _ _)
   | (with_reducible exact LeO.refl _)
   | (with_reducible exact LeO.none _)
   | (with_reducible refine LeO.ite ?_ ?_)
   | (with_reducible refine LeO.bind ?_ (fun _ => ?_))
   | exact ih0 _ _ _
   | exact ih1 _ _ _
   | exact head_byteful.mono _ _
   | exact head_field.mono _ _
   | exact head_fold.mono _ _ _
   | exact head_named.mono _ _
   | exact LeO.none _
   | refine LeO.ite ?_ ?_
   | refine LeO.bind ?_ (fun _ => ?_)
set_option maxHeartbeats 8000000 in
set_option maxRecDepth 100000 in
theorem head_Lay.calls (k : Nat) (a0 : ByteArray) (a1 : ByteArray) (r1 : ByteArray) (r2 : ByteArray) (r3 : ByteArray) (r4 : Int) (w : World) (hG : Glob w) (h : head_Lay.f k a0 a1 = some (r1, r2, r3, r4)) :
  Calls Tryz.prog 94 #[.string a0, .string a1] w fun e w' => e = .returned (.tuple #[.agg #[.string r1, .string r2, .string r3], .int .i64 r4]) ∧ Below w.heap.size w w' := by
 have hu72 := Tryz.underlying72
 have HB := Aside0.mk (Below.refl w.heap.size w)
 have HG := Aside0.mk hG
 clear hG
 have H : ((head_named.f k a0).bind fun t288 => (if t288 = true then ((head_byteful.f k a1).bind fun t289 => (head_Lay.j0 k a0 a1 (!t289))) else (head_Lay.j0 k a0 a1 true))) = some (r1, r2, r3, r4) := h
 clear h
 have HC3 := Aside0.mk H
 clear H
 go_enter Tryz.func94, Tryz.ntmps94
 go_upto_region 1 with (first | ((with_reducible refine gate_dst (N := 4) rfl ?_); refine box_event ?hg (N := 4) ?hd (cs := #[.string (⟨#[]⟩ : ByteArray), .string (⟨#[]⟩ : ByteArray), .string (⟨#[]⟩ : ByteArray)]) (t := 72) ?hr ?_; (case hd => rfl); (case hg => rfl); (case hr => first | (go_simp; done) | (go_simp; rfl)); intro gb287 hg w4 hbox hb; have n0_ := Aside0.mk (below_step bl hb); have n1_ := Aside0.mk (hbox); have n2_ := Aside0.mk ((by rw [hg]; exact (below_size bl) : w.heap.size ≤ gb287)); have n3_ := Aside0.mk ((by rw [hg]; exact (below_size bl) : w.heap.size ≤ gb287)); clear HB; have HB := n0_; have BK287 := n1_; have GW287 := n2_; have GE287 := n3_; clear n0_ n1_ n2_ n3_; clear hb hbox hg))
 (try simp only [Act.put, List.setIfInBounds_toArray, List.set_cons_zero, List.set_cons_succ])
 go_cut [19] (fun v19 wc => ∃ (kq : Nat) (x19_2 : Bool), v19 = .bool x19_2 ∧ Aside0 (head_Lay.j0 kq a0 a1 x19_2 = some (r1, r2, r3, r4)) ∧ Aside0 (kq ≤ k) ∧ Aside0 (wc.heap[gb287]? = some (.cells #[.string (⟨#[]⟩ : ByteArray), .string (⟨#[]⟩ : ByteArray), .string (⟨#[]⟩ : ByteArray)] 72 (0, 0))) ∧ Aside0 (Below w.heap.size w wc))
 case first =>
  have H := HC3.out
  clear HC3
  replace H := Option.bind_eq_some_iff.mp H
  obtain ⟨t288, A50, H⟩ := H
  replace H : (if t288 = true then ((head_byteful.f k a1).bind fun t289 => (head_Lay.j0 k a0 a1 (!t289))) else (head_Lay.j0 k a0 a1 true)) = some (r1, r2, r3, r4) := H
  have A5 := Aside0.mk A50
  clear A50
  by_cases c6 : t288 = true
  ·subst c6
   have H1 : ((head_byteful.f k a1).bind fun t289 => (head_Lay.j0 k a0 a1 (!t289))) = some (r1, r2, r3, r4) := by rw [if_pos rfl] at H; exact H
   clear H
   have H := H1
   clear H1
   replace H := Option.bind_eq_some_iff.mp H
   obtain ⟨t289, A70, H⟩ := H
   replace H : (head_Lay.j0 k a0 a1 (!t289)) = some (r1, r2, r3, r4) := H
   have A7 := Aside0.mk A70
   clear A70
   have H' := Aside0.mk H
   clear H
   go_wp2_with (first | ((with_reducible refine gate_callee (f := 93) rfl ?_); refine goesL_ (some 13) rfl rfl Tryz.func93 (by kernel_rfl) rfl #[.string a0] rfl ml ?_; (with_reducible refine (head_named.calls k a0 true _ A5.out).mono ?_); rintro e w' ⟨rfl, ⟨nd, rfl⟩⟩; refine ⟨_, rfl, ?_⟩) | (go_at_call 88; (with_reducible refine (head_byteful.calls k a1 t289 _ A7.out).mono ?_); rintro e w' ⟨rfl, ⟨nd, rfl⟩⟩))
   go_meet
   case rel => exact ⟨_, (!t289), (by first | rfl | (simp; done) | (simp [*]; done)), H', ⟨by first | omega | exact Nat.le_refl _⟩, ⟨by (with_reducible repeat (first | refine blk_drewN ?_ _ | refine blk_drew ?_ | refine blk_alloc ?_ _)); exact BK287.out⟩, ⟨by repeat (first | (with_reducible first | exact HB.out | apply below_alloc | apply pw_below_drewN | apply below_drew1 | refine below_set ?_ GE287.out) | exact HB.out)⟩⟩
  ·replace c6 := Bool.eq_false_iff.mpr c6
   subst c6
   have H1 : (head_Lay.j0 k a0 a1 true) = some (r1, r2, r3, r4) := by rw [if_neg (show ¬ (false = true) by decide)] at H; exact H
   clear H
   have H := H1
   clear H1
   have H' := Aside0.mk H
   clear H
   go_wp2_with (first | ((with_reducible refine gate_callee (f := 93) rfl ?_); refine goesL_ (some 13) rfl rfl Tryz.func93 (by kernel_rfl) rfl #[.string a0] rfl ml ?_; (with_reducible refine (head_named.calls k a0 false _ A5.out).mono ?_); rintro e w' ⟨rfl, ⟨nd, rfl⟩⟩; refine ⟨_, rfl, ?_⟩))
   go_meet
   case rel => exact ⟨_, (true), (by first | rfl | (simp; done) | (simp [*]; done)), H', ⟨by first | omega | exact Nat.le_refl _⟩, ⟨by (with_reducible repeat (first | refine blk_drewN ?_ _ | refine blk_drew ?_ | refine blk_alloc ?_ _)); exact BK287.out⟩, ⟨by repeat (first | (with_reducible first | exact HB.out | apply below_alloc | apply pw_below_drewN | apply below_drew1 | refine below_set ?_ GE287.out) | exact HB.out)⟩⟩
 case rest =>
  clear HC3
  try clear p2
  try clear c6
  obtain ⟨kq, x19_2, rfl, HA, HJ2, BK287, HB⟩ := hcut
  cases kq with
  | zero => exact absurd HA.out (by simp [head_Lay.j0])
  | succ kj2 =>
   have H := HA.out
   clear HA
   simp only [head_Lay.j0] at H
   by_cases c8 : x19_2 = true
   ·subst c8
    have H1 : (some ((⟨#[]⟩ : ByteArray), (⟨#[]⟩ : ByteArray), (⟨#[]⟩ : ByteArray), 5)) = some (r1, r2, r3, r4) := by rw [if_pos rfl] at H; exact H
    clear H
    have H := H1
    clear H1
    simp only [Option.some.injEq, Prod.mk.injEq] at H
    obtain ⟨rfl, rfl, rfl, rfl⟩ := H
    have hcz9_0 : wc.cell? ⟨gb287, 0, none⟩ = some (.string (⟨#[]⟩ : ByteArray)) := (blk_cell BK287.out 0).trans rfl
    have hcz9_1 : wc.cell? ⟨gb287, 1, none⟩ = some (.string (⟨#[]⟩ : ByteArray)) := (blk_cell BK287.out 1).trans rfl
    have hcz9_2 : wc.cell? ⟨gb287, 2, none⟩ = some (.string (⟨#[]⟩ : ByteArray)) := (blk_cell BK287.out 2).trans rfl
    have hfz9_0 := blk_frozen BK287.out 0
    have hfz9_1 := blk_frozen BK287.out 1
    have hfz9_2 := blk_frozen BK287.out 2
    go_wp2
    refine bodyPost_ret (results_ct rfl _ _ gb287 72 #[.string (⟨#[]⟩ : ByteArray), .string (⟨#[]⟩ : ByteArray), .string (⟨#[]⟩ : ByteArray)] (0, 0) _ rfl (by (with_reducible repeat (first | refine blk_drewN ?_ _ | refine blk_drew ?_ | refine blk_alloc ?_ _)); refine blk_put (cs := #[.string (⟨#[]⟩ : ByteArray), .string (⟨#[]⟩ : ByteArray), .string (⟨#[]⟩ : ByteArray)]) ?_ 2 _ rfl; (with_reducible repeat (first | refine blk_drewN ?_ _ | refine blk_drew ?_ | refine blk_alloc ?_ _)); refine blk_put (cs := #[.string (⟨#[]⟩ : ByteArray), .string (⟨#[]⟩ : ByteArray), .string (⟨#[]⟩ : ByteArray)]) ?_ 1 _ rfl; (with_reducible repeat (first | refine blk_drewN ?_ _ | refine blk_drew ?_ | refine blk_alloc ?_ _)); refine blk_put (cs := #[.string (⟨#[]⟩ : ByteArray), .string (⟨#[]⟩ : ByteArray), .string (⟨#[]⟩ : ByteArray)]) ?_ 0 _ rfl; (with_reducible repeat (first | refine blk_drewN ?_ _ | refine blk_drew ?_ | refine blk_alloc ?_ _)); exact BK287.out) Tryz.underlying72 rfl (by kernel_rfl)) rfl ?_
    exact ⟨by first | rfl | (simp [bneNil]; done) | (simp [errW_none, errW_some] <;> rfl) | (simp [*, errW_none, errW_some] <;> rfl), by repeat (first | (with_reducible first | exact HB.out | apply below_alloc | apply pw_below_drewN | apply below_drew1 | refine below_set ?_ GE287.out) | exact HB.out)⟩
   ·replace c8 := Bool.eq_false_iff.mpr c8
    subst c8
    have H1 : (if a0.size + 2 ≤ 9223372036854775807 then (if (a0 ++ (⟨#[58, 32]⟩ : ByteArray)).size + a1.size ≤ 9223372036854775807 then ((head_fold.f kj2 ((a0 ++ (⟨#[58, 32]⟩ : ByteArray)) ++ a1) (wrap64 ((a0.size : Int) + 3))).bind fun t290 => (head_Lay.l0 kj2 ([] : List ByteArray) ((a0 ++ (⟨#[58, 32]⟩ : ByteArray)) ++ a1) t290)) else (none)) else (none)) = some (r1, r2, r3, r4) := by rw [if_neg (show ¬ (false = true) by decide)] at H; exact H
    clear H
    have H := H1
    clear H1
    by_cases c10 : a0.size + 2 ≤ 9223372036854775807
    ·rw [if_pos c10] at H
     have c10b0 := eq_true c10
     have c10b1 : decide (a0.size + 2 ≤ 9223372036854775807) = true := decide_eq_true c10
     try have c10b2 : (9223372036854775807 < a0.size + 2) = False := eq_false (Nat.not_lt.2 c10)
     by_cases c11 : (a0 ++ (⟨#[58, 32]⟩ : ByteArray)).size + a1.size ≤ 9223372036854775807
     ·rw [if_pos c11] at H
      have c11b0 := eq_true c11
      have c11b1 : decide ((a0 ++ (⟨#[58, 32]⟩ : ByteArray)).size + a1.size ≤ 9223372036854775807) = true := decide_eq_true c11
      try have c11b2 : (9223372036854775807 < (a0 ++ (⟨#[58, 32]⟩ : ByteArray)).size + a1.size) = False := eq_false (Nat.not_lt.2 c11)
      try (have c11b2y := c11b2; rw [ByteArray.size_append] at c11b2y)
      try have c11b2z : (9223372036854775807 < a0.size + 2 + a1.size) = False := eq_false (fun h_ => by have g_ := c11; simp only [ByteArray.size_append, show (⟨#[58, 32]⟩ : ByteArray).size = 2 from rfl] at g_; omega)
      replace H := Option.bind_eq_some_iff.mp H
      obtain ⟨t290, A120, H⟩ := H
      replace H : (head_Lay.l0 kj2 ([] : List ByteArray) ((a0 ++ (⟨#[58, 32]⟩ : ByteArray)) ++ a1) t290) = some (r1, r2, r3, r4) := H
      have A12 := Aside0.mk A120
      clear A120
      have H' := Aside0.mk H
      clear H
      go_wp2_with (first | ((with_reducible refine gate_callee (f := 144) rfl ?_); refine goesL_ (some 30) rfl rfl Tryz.func144 (by kernel_rfl) rfl #[.string ((a0 ++ (⟨#[58, 32]⟩ : ByteArray)) ++ a1), .int .i64 (wrap64 ((a0.size : Int) + 3))] rfl ml ?_; (with_reducible refine (head_fold.calls kj2 ((a0 ++ (⟨#[58, 32]⟩ : ByteArray)) ++ a1) (wrap64 ((a0.size : Int) + 3)) t290 _ A12.out).mono ?_); rintro e w' ⟨rfl, ⟨nd, rfl⟩⟩; refine ⟨_, rfl, ?_⟩))
      go_loopg [6, 7, 9] kj2 (fun kq v6 v7 v9 w' => ∃ (x6_2 : List ByteArray) (x7_2 : ByteArray) (x9_2 : Int), v7 = .string x7_2 ∧ v9 = .int .i64 x9_2 ∧ Aside0 (head_Lay.l0 kq x6_2 x7_2 x9_2 = some (r1, r2, r3, r4)) ∧ Aside0 (kq ≤ kj2) ∧ Aside0 (Kd.R Kd.string 9 w' w.heap.size (fun _ => True) v6 x6_2) ∧ Aside0 (w'.heap[gb287]? = some (.cells #[.string (⟨#[]⟩ : ByteArray), .string (⟨#[]⟩ : ByteArray), .string (⟨#[]⟩ : ByteArray)] 72 (0, 0))) ∧ Aside0 (Below w.heap.size w w'))
      case atStart => exact ⟨(([] : List ByteArray)), ((a0 ++ (⟨#[58, 32]⟩ : ByteArray)) ++ a1), (t290), (by first | rfl | (simp; done) | (simp [*]; done)), (by first | rfl | (simp; done) | (simp [*]; done)), H', ⟨Nat.le_refl _⟩, ⟨by first | exact Kd.R_nil _ _ _ _ _ | exact Kd.N_nil _ _ _ _ _ | exact Kd.V_nil _ _ _ _ _ | exact Kd.Q_nil _ _ _ _ _ | exact Kd.S_nil _ _ _ _ _⟩, ⟨by (with_reducible repeat (first | refine blk_drewN ?_ _ | refine blk_drew ?_ | refine blk_alloc ?_ _)); exact BK287.out⟩, ⟨by repeat (first | (with_reducible first | exact HB.out | apply below_alloc | apply pw_below_drewN | apply below_drew1 | refine below_set ?_ GE287.out) | exact HB.out)⟩⟩
      case round =>
       clear H'
       try clear c1
       try clear p2
       try clear c6
       try clear p6
       try clear c8
       try clear c9
       try clear c10
       try clear c10b0
       try clear c10b1
       try clear c10b2
       try clear c11
       try clear c11b0
       try clear c11b1
       try clear c11b2
       try clear hcz9_0
       try clear hcz9_1
       try clear hcz9_2
       try clear hfz9_0
       try clear hfz9_1
       try clear hfz9_2
       try clear p2
       obtain ⟨x6_2, x7_2, x9_2, rfl, rfl, HA, HK2, HO_6, BK287, HB⟩ := hrel
       cases gk with
       | zero => exact absurd HA.out (by simp [head_Lay.l0])
       | succ k2 =>
        have H := HA.out
        clear HA
        simp only [head_Lay.l0] at H
        by_cases c13 : x9_2 ≥ 0
        ·rw [if_pos c13] at H
         have c13b0 : decide (0 ≤ x9_2) = true := decide_eq_true c13
         clear c13
         by_cases c14 : 0 ≤ x9_2
         ·rw [if_pos c14] at H
          have c14b0 := eq_true c14
          have c14b1 : decide (0 ≤ x9_2) = true := decide_eq_true c14
          clear c14
          by_cases c15 : x9_2 ≤ (x7_2.size : Int)
          ·rw [if_pos c15] at H
           have c15b0 := eq_true c15
           have c15b1 : decide (x9_2 ≤ (x7_2.size : Int)) = true := decide_eq_true c15
           clear c15
           by_cases c16 : x6_2.length < 8796093022208
           ·rw [if_pos c16] at H
            have LMc16 := Aside0.mk c16
            clear c16
            obtain ⟨y291, hy291⟩ : ∃ y_ : List ByteArray, y_ = (x6_2 ++ [x7_2.extract 0 (x9_2 : Int).toNat]) := ⟨_, rfl⟩
            replace H : ((head_fold.f k2 (x7_2.extract (x9_2 : Int).toNat x7_2.size) 2).bind fun t294 => (head_Lay.l0 k2 y291 (x7_2.extract (x9_2 : Int).toNat x7_2.size) t294)) = some (r1, r2, r3, r4) := by first | (rw [hy291]; with_reducible exact H) | (have H2_ := (Option.bind_some _ _).symm.trans H; rw [hy291]; with_reducible exact H2_) | (have H2_ := (Option.bind_some _ _).symm.trans H; with_reducible exact H2_) | with_reducible exact H | (rw [hy291]; exact H) | exact H
            have Ny291 := Aside0.mk hy291
            clear hy291
            have c17b0 := eq_true (od : 0 ≤ x9_2)
            have c18b0 := eq_true (od : x9_2 ≤ (x7_2.size : Int))
            replace H := Option.bind_eq_some_iff.mp H
            obtain ⟨t294, A190, H⟩ := H
            replace H : (head_Lay.l0 k2 y291 (x7_2.extract (x9_2 : Int).toNat x7_2.size) t294) = some (r1, r2, r3, r4) := H
            have A19 := Aside0.mk A190
            clear A190
            have H' := Aside0.mk H
            clear H
            go_wp2_with (first | ((with_reducible refine gate_builtin (b := .append) (xs := #[.tmp 36, .tmp 40]) rfl ?_); at_builtin; refine Kd.R_append Kd.string (w0 := w) w.heap.size rfl (.tmp 36) (.tmp 40) 84 9 (.string ⟨#[]⟩) 16 rfl Tryz.underlying84 info9 rfl (by decide) (by omega) u6 x6_2 (x7_2.extract 0 (x9_2 : Int).toNat) [.string (x7_2.extract 0 (x9_2 : Int).toNat)] (fun _ => True) (fun _ => False) rfl rfl ?aP (fun _ hk => hk.elim) ?aF ?aO ?aB ?aS ?aL ?_; (case aP => exact rfl); (case aB => exact bl); (case aF => exact (fun _ _ => trivial)); (case aO => exact (kr HO_6.out)); (case aS => exact (below_size bl)); (case aL => have := LMc16.out; omega); intro v292 w20 ho hb hg hat; rw [← Ny291.out] at ho; have n0_ := Aside0.mk (blk_grown (g := gb287) (o := .cells #[.string (⟨#[]⟩ : ByteArray), .string (⟨#[]⟩ : ByteArray), .string (⟨#[]⟩ : ByteArray)] 72 (0, 0)) (bk BK287.out) hg (Kd.R_ne HO_6.out BK287.out (by decide))); have n1_ := Aside0.mk (hb); have n2_ := Aside0.mk (ho); clear BK287; clear HB; clear HO_6; have BK287 := n0_; have HB := n1_; have HO293 := n2_; clear n0_ n1_ n2_; clear ho hb hg hat) | ((with_reducible refine gate_callee (f := 144) rfl ?_); refine goesL_ (some 35) rfl rfl Tryz.func144 (by kernel_rfl) rfl #[.string (x7_2.extract (x9_2 : Int).toNat x7_2.size), .int .i64 2] rfl ml ?_; (with_reducible refine (head_fold.calls k2 (x7_2.extract (x9_2 : Int).toNat x7_2.size) 2 t294 _ A19.out).mono ?_); rintro e w' ⟨rfl, ⟨nd, rfl⟩⟩; refine ⟨_, rfl, ?_⟩))
            go_roundg k2
            case measure => have := HJ2.out; have := HK2.out; omega
            case rel => exact ⟨(y291), (x7_2.extract (x9_2 : Int).toNat x7_2.size), (t294), (by first | rfl | (simp; done) | (simp [*]; done)), (by first | rfl | (simp; done) | (simp [*]; done)), H', ⟨by have := HJ2.out; have := HK2.out; omega⟩, ⟨by (with_reducible repeat (first | apply Kd.R_alloc | apply Kd.R_drewN | apply Kd.R_drew)); exact HO293.out⟩, ⟨by (with_reducible repeat (first | refine blk_drewN ?_ _ | refine blk_drew ?_ | refine blk_alloc ?_ _)); exact BK287.out⟩, ⟨by repeat (first | (with_reducible first | exact HB.out | apply below_alloc | apply pw_below_drewN | apply below_drew1 | refine below_set ?_ GE287.out) | exact HB.out)⟩⟩
           ·rw [if_neg c16] at H
            exact absurd H (by simp)
          ·rw [if_neg c15] at H
           exact absurd H (by simp)
         ·rw [if_neg c14] at H
          exact absurd H (by simp)
        ·rw [if_neg c13] at H
         have c13b0 : decide (0 ≤ x9_2) = false := decide_eq_false c13
         clear c13
         by_cases c21 : x6_2.length < 8796093022208
         ·rw [if_pos c21] at H
          have LMc21 := Aside0.mk c21
          clear c21
          obtain ⟨y295, hy295⟩ : ∃ y_ : List ByteArray, y_ = (x6_2 ++ [x7_2]) := ⟨_, rfl⟩
          replace H : ((head_field.f k2 y295).bind fun bt298 => (some (bt298.1, bt298.2.1, bt298.2.2.1, 0))) = some (r1, r2, r3, r4) := by first | (rw [hy295]; with_reducible exact H) | (have H2_ := (Option.bind_some _ _).symm.trans H; rw [hy295]; with_reducible exact H2_) | (have H2_ := (Option.bind_some _ _).symm.trans H; with_reducible exact H2_) | with_reducible exact H | (rw [hy295]; exact H) | exact H
          have Ny295 := Aside0.mk hy295
          clear hy295
          replace H := Option.bind_eq_some_iff.mp H
          obtain ⟨⟨t298, t299, t300, t301⟩, A220, H⟩ := H
          replace H : (some (t298, t299, t300, 0)) = some (r1, r2, r3, r4) := H
          have A22 := Aside0.mk A220
          clear A220
          simp only [Option.some.injEq, Prod.mk.injEq] at H
          obtain ⟨rfl, rfl, rfl, rfl⟩ := H
          go_wp2_with (first | ((with_reducible refine gate_builtin (b := .append) (xs := #[.tmp 46, .tmp 48]) rfl ?_); at_builtin; refine Kd.R_append Kd.string (w0 := w) w.heap.size rfl (.tmp 46) (.tmp 48) 84 9 (.string ⟨#[]⟩) 16 rfl Tryz.underlying84 info9 rfl (by decide) (by omega) u6 x6_2 x7_2 [.string x7_2] (fun _ => True) (fun _ => False) rfl rfl ?aP (fun _ hk => hk.elim) ?aF ?aO ?aB ?aS ?aL ?_; (case aP => exact rfl); (case aB => exact bl); (case aF => exact (fun _ _ => trivial)); (case aO => exact (kr HO_6.out)); (case aS => exact (below_size bl)); (case aL => have := LMc21.out; omega); intro v296 w23 ho hb hg hat; rw [← Ny295.out] at ho; have n0_ := Aside0.mk (blk_grown (g := gb287) (o := .cells #[.string (⟨#[]⟩ : ByteArray), .string (⟨#[]⟩ : ByteArray), .string (⟨#[]⟩ : ByteArray)] 72 (0, 0)) (bk BK287.out) hg (Kd.R_ne HO_6.out BK287.out (by decide))); have n1_ := Aside0.mk (hb); have n2_ := Aside0.mk (ho); clear BK287; clear HB; clear HO_6; have BK287 := n0_; have HB := n1_; have HO297 := n2_; clear n0_ n1_ n2_; clear ho hb hg hat; obtain ⟨Ao24, co24, eo24⟩ := Kd.R_slice HO297.out; subst eo24) | ((with_reducible refine gate_callee (f := 50) rfl ?_); refine goesL_ (some 50) rfl rfl Tryz.func50 (by kernel_rfl) rfl #[.slice Ao24 y295.length co24] rfl ml ?_; (with_reducible refine (head_field.calls k2 _ _ y295 t298 t299 t300 t301 _ ?side1 ?side2 ?side3 A22.out).mono ?_); (case side1 => repeat (first | exact (Kd.R_reads' HO297.out).2.2 | (with_reducible refine Kd.C_alloc ?_ _) | (with_reducible refine Kd.C_drewN ?_ _) | (with_reducible refine Kd.C_drew ?_))); (case side2 => exact (Kd.R_reads' HO297.out).2.1); (case side3 => exact Glob.below HG.out bl); rintro e w25 ⟨rfl, hb⟩; refine ⟨_, rfl, ?_⟩; have n0_ := Aside0.mk (Kd.R_below (kr HO297.out) hb); have n1_ := Aside0.mk (kb BK287.out hb); have n2_ := Aside0.mk (below_step bl hb); clear HO297; clear BK287; clear HB; have HO297 := n0_; have BK287 := n1_; have HB := n2_; clear n0_ n1_ n2_; (try clear hb); (try clear hb2); (try clear hk); (try clear hi)) | ((with_reducible refine gate_dst (N := 10) rfl ?_); refine box_event ?hg (N := 10) ?hd (cs := #[.string (⟨#[]⟩ : ByteArray), .string (⟨#[]⟩ : ByteArray), .string (⟨#[]⟩ : ByteArray)]) (t := 72) ?hr ?_; (case hd => rfl); (case hg => rfl); (case hr => first | (go_simp; done) | (go_simp; rfl)); intro gb302 hg w26 hbox hb; have n0_ := Aside0.mk (Kd.R_below (kr HO297.out) hb); have n1_ := Aside0.mk (kb BK287.out hb); have n2_ := Aside0.mk (below_step bl hb); have n3_ := Aside0.mk (hbox); have n4_ := Aside0.mk ((by rw [hg]; exact (below_size bl) : w.heap.size ≤ gb302)); have n5_ := Aside0.mk ((by rw [hg]; exact (below_size bl) : w.heap.size ≤ gb302)); have n6_ := Aside0.mk ((by rw [hg]; exact Nat.ne_of_lt (blk_lt (bk BK287.out)) : gb287 ≠ gb302)); have n7_ := Aside0.mk ((by rw [hg]; exact Nat.ne_of_gt (blk_lt (bk BK287.out)) : gb302 ≠ gb287)); clear HO297; clear BK287; clear HB; have HO297 := n0_; have BK287 := n1_; have HB := n2_; have BK302 := n3_; have GW302 := n4_; have GE302 := n5_; have NB287_302 := n6_; have NB302_287 := n7_; clear n0_ n1_ n2_ n3_ n4_ n5_ n6_ n7_; clear hb hbox hg; have hnb27 := NB302_287.out; have hnc27 := NB287_302.out; have hcz28_0 : w26.cell? ⟨gb302, 0, none⟩ = some (.string (⟨#[]⟩ : ByteArray)) := (blk_cell BK302.out 0).trans rfl; have hcz28_1 : w26.cell? ⟨gb302, 1, none⟩ = some (.string (⟨#[]⟩ : ByteArray)) := (blk_cell BK302.out 1).trans rfl; have hcz28_2 : w26.cell? ⟨gb302, 2, none⟩ = some (.string (⟨#[]⟩ : ByteArray)) := (blk_cell BK302.out 2).trans rfl; have hfz28_0 := blk_frozen BK302.out 0; have hfz28_1 := blk_frozen BK302.out 1; have hfz28_2 := blk_frozen BK302.out 2; have hcz29_0 : w26.cell? ⟨gb287, 0, none⟩ = some (.string (⟨#[]⟩ : ByteArray)) := (blk_cell BK287.out 0).trans rfl; have hcz29_1 : w26.cell? ⟨gb287, 1, none⟩ = some (.string (⟨#[]⟩ : ByteArray)) := (blk_cell BK287.out 1).trans rfl; have hcz29_2 : w26.cell? ⟨gb287, 2, none⟩ = some (.string (⟨#[]⟩ : ByteArray)) := (blk_cell BK287.out 2).trans rfl; have hfz29_0 := blk_frozen BK287.out 0; have hfz29_1 := blk_frozen BK287.out 1; have hfz29_2 := blk_frozen BK287.out 2))
          refine bodyPost_ret (results_ct rfl _ _ gb287 72 #[.string t298, .string t299, .string t300] (0, 0) _ rfl (by (with_reducible repeat (first | refine blk_drewN ?_ _ | refine blk_drew ?_ | refine blk_alloc ?_ _)); refine blk_put (cs := #[.string t298, .string t299, .string (⟨#[]⟩ : ByteArray)]) ?_ 2 _ rfl; (with_reducible repeat (first | refine blk_drewN ?_ _ | refine blk_drew ?_ | refine blk_alloc ?_ _)); refine blk_put (cs := #[.string t298, .string (⟨#[]⟩ : ByteArray), .string (⟨#[]⟩ : ByteArray)]) ?_ 1 _ rfl; (with_reducible repeat (first | refine blk_drewN ?_ _ | refine blk_drew ?_ | refine blk_alloc ?_ _)); refine blk_put (cs := #[.string (⟨#[]⟩ : ByteArray), .string (⟨#[]⟩ : ByteArray), .string (⟨#[]⟩ : ByteArray)]) ?_ 0 _ rfl; (with_reducible repeat (first | refine blk_drewN ?_ _ | refine blk_drew ?_ | refine blk_alloc ?_ _)); refine blk_far ?_ NB287_302.out _; (with_reducible repeat (first | refine blk_drewN ?_ _ | refine blk_drew ?_ | refine blk_alloc ?_ _)); refine blk_far ?_ NB287_302.out _; (with_reducible repeat (first | refine blk_drewN ?_ _ | refine blk_drew ?_ | refine blk_alloc ?_ _)); refine blk_far ?_ NB287_302.out _; (with_reducible repeat (first | refine blk_drewN ?_ _ | refine blk_drew ?_ | refine blk_alloc ?_ _)); exact BK287.out) Tryz.underlying72 rfl (by kernel_rfl)) rfl ?_
          exact ⟨by first | rfl | (simp [bneNil]; done) | (simp [errW_none, errW_some] <;> rfl) | (simp [*, errW_none, errW_some] <;> rfl), by repeat (first | (with_reducible first | exact HB.out | apply below_alloc | apply pw_below_drewN | apply below_drew1 | refine below_set ?_ GE287.out | refine below_set ?_ GE302.out) | exact HB.out)⟩
         ·rw [if_neg c21] at H
          exact absurd H (by simp)
     ·rw [if_neg c11] at H
      exact absurd H (by simp)
    ·rw [if_neg c10] at H
     exact absurd H (by simp)

/-! ### head_Message_Text: function 25 (by hand) -/
def headPre (l0 : List S72) (k : Nat) : List UInt8 := ((l0.take k).map (·.f2.data.toList)).flatten
def headText (l0 : List S72) (a1 : ByteArray) (a2 : Bool) : List UInt8 := headPre l0 l0.length ++ (if a2 = true then [] else 13 :: 10 :: a1.data.toList)
theorem headPre_succ (l0 : List S72) (k : Nat) (h : k < l0.length) : headPre l0 (k + 1) = headPre l0 k ++ (rd_T72 l0 (k : Int)).f2.data.toList := by
  unfold headPre rd_T72
  rw [List.take_succ_eq_append_getElem h, List.map_append, List.flatten_append, Int.toNat_natCast, List.getD_eq_getElem?_getD, List.getElem?_eq_getElem h]
  simp
theorem headPre_le (l0 : List S72) (k : Nat) : (headPre l0 k).length ≤ (headPre l0 l0.length).length := by
  unfold headPre
  rw [List.take_length]
  conv => rhs; rw [← List.take_append_drop k l0]
  rw [List.map_append, List.flatten_append, List.length_append]
  omega
def head_Message_Text.f (l0 : List S72) (a1 : ByteArray) (a2 : Bool) : Option ByteArray := if (headText l0 a1 a2).length ≤ 140737488355328 ∧ a1.size ≤ 140737488355328 ∧ l0.length ≤ 140737488355328 then some ⟨(headText l0 a1 a2).toArray⟩ else none
theorem text_next {l0 : List S72} {B b k : Nat} {x : Int} {w : World} (hx : x = (k : Nat)) (hk : k < l0.length) (h : Lib.BuilderAtF 104 5 B b (.pointer (some ⟨b, 0, none⟩)) (Lib.byteCells (headPre l0 k) ++ Lib.strCells (rd_T72 l0 x).f2) w) :
    Lib.IsBuilderF 104 5 B b (Lib.byteCells (headPre l0 (k + 1))) w := by
  subst hx
  rw [headPre_succ l0 k hk, Lib.byteCells_append, ← Lib.strCells_eq]
  exact .inr h
set_option maxHeartbeats 1000000 in
set_option maxRecDepth 100000 in
theorem head_Message_Text.calls (A0 : Option Addr) (c0 : Nat) (l0 : List S72) (a1 : ByteArray) (a2 : Bool) (r : ByteArray) (w : World) (hr0 : Kd.C k72 w A0 l0.length l0) (hc0 : l0.length ≤ c0) (h : head_Message_Text.f l0 a1 a2 = some r) :
    Calls Tryz.prog 25 #[.agg #[.slice A0 l0.length c0, .string a1, .bool a2]] w fun e w' => e = .returned (.string r) ∧ Below w.heap.size w w' := by
  unfold head_Message_Text.f at h
  by_cases hsz : (headText l0 a1 a2).length ≤ 140737488355328 ∧ a1.size ≤ 140737488355328 ∧ l0.length ≤ 140737488355328
  · rw [if_pos hsz] at h
    obtain rfl := Option.some.inj h
    clear h
    obtain ⟨hs1, hs2, hs3⟩ := hsz
    have HS := Aside0.mk hs1
    clear hs1
    have HR := Aside0.mk hr0
    clear hr0
    have HC := Aside0.mk hc0
    clear hc0
    go_enter Tryz.func25, Tryz.ntmps25
    go_wp2
    obtain ⟨W, hW⟩ : ∃ W, W = (w.alloc (Obj.cells #[Value.slice A0 l0.length c0, Value.string a1, Value.bool a2] 24)).alloc (Obj.cells #[Value.pointer none, Value.slice none 0 0] 104) := ⟨_, rfl⟩
    obtain ⟨g, hg⟩ : ∃ g, g = w.heap.size := ⟨_, rfl⟩
    have HI : Aside0 (Lib.IsBuilderF 104 5 (g + 1) (g + 1) (Lib.byteCells (headPre l0 0)) W) := ⟨by
      have := Lib.IsBuilderF.of (Lib.fresh_isBuilder 104 5 (w.alloc (Obj.cells #[Value.slice A0 l0.length c0, Value.string a1, Value.bool a2] 24)))
      rw [hW, hg]
      simpa [headPre, Lib.byteCells] using this⟩
    have HG : Aside0 (W.heap[g]? = some (.cells #[Value.slice A0 l0.length c0, Value.string a1, Value.bool a2] 24 (0, 0))) := ⟨by
      rw [hW, hg]; exact blk_alloc (blk_new _ _) _⟩
    have HB : Aside0 (Below w.heap.size w W) := ⟨by
      rw [hW]; exact below_alloc (below_alloc (Below.refl _ _) _) _⟩
    have HZ : Aside0 (g + 1 ≤ W.heap.size) := ⟨by rw [hW, hg]; simp⟩
    have Hg := Aside0.mk hg
    rw [← hW, ← hg]
    clear hW hg
    go_loopw [9] (fun v9 w' => ∃ (x : Int) (k : Nat), v9 = .int .i64 x ∧ Aside0 (x = (k : Nat)) ∧ 0 ≤ x ∧ x ≤ l0.length ∧ Aside0 (Lib.IsBuilderF 104 5 (g + 1) (g + 1) (Lib.byteCells (headPre l0 k)) w') ∧ Aside0 (w'.heap[g]? = some (.cells #[Value.slice A0 l0.length c0, Value.string a1, Value.bool a2] 24 (0, 0))) ∧ Aside0 (Below w.heap.size w w') ∧ Aside0 (g + 1 ≤ w'.heap.size)) (fun v9 _ => l0.length - (intOf v9).toNat)
    case atStart => exact ⟨0, 0, rfl, ⟨rfl⟩, Int.le_refl _, by omega, HI, HG, HB, HZ⟩
    case round =>
      clear HI HG HB HZ
      obtain ⟨x, k, rfl, Hx, hx0, hx1, HI, HG, HB, HZ⟩ := hrel
      by_cases hlt : x < l0.length
      · have hk : k < l0.length := by have := Hx.out; omega
        obtain ⟨ad, e, h0, h1, h2⟩ := at_T72 HR.out x hx0 hlt
        cases e
        replace h0 := pw_cell_below HB.out h0
        replace h1 := pw_cell_below HB.out h1
        replace h2 := pw_cell_below HB.out h2
        have HN : Aside0 ((Lib.byteCells (headPre l0 k)).length + (rd_T72 l0 x).f2.size ≤ 140737488355328) := ⟨by
          have a := headPre_succ l0 k hk
          have b := headPre_le l0 (k + 1)
          have c := HS.out
          unfold headText at c
          rw [a] at b
          have := Hx.out
          subst this
          rw [List.length_append] at b c
          rw [show (rd_T72 l0 ↑k).f2.size = (rd_T72 l0 ↑k).f2.data.toList.length from (data_length _).symm]
          simp only [Lib.byteCells, List.length_map]
          omega⟩
        have hd : decide (x < (l0.length : Int)) = true := decide_eq_true hlt
        go_wp2_with (go_at_call 56; (with_reducible refine (Tryz.Builder_WriteString_f (g + 1) (g + 1) (Lib.byteCells (headPre l0 k)) _ _ (HI.out.alloc _) HN.out (by have := HZ.out; simp; omega)).mono ?_); rintro e2 w2 ⟨rfl, hI2, hb2⟩)
        exact ⟨⟨x + 1, k + 1, rfl, ⟨by have := Hx.out; omega⟩, by omega, by omega, ⟨text_next Hx.out hk hI2⟩, ⟨(hb2.block g (by omega)).trans (blk_alloc HG.out _)⟩, ⟨(below_alloc HB.out _).trans (hb2.mono (by have := Hg.out; omega))⟩, ⟨Nat.le_trans (by have := HZ.out; simp; omega) hb2.size⟩⟩, by simp [intOf]; omega⟩
      · have hx : x = l0.length := by omega
        subst hx
        have hk : k = l0.length := by have := Hx.out; omega
        subst hk
        clear Hx hx0 hx1
        have hd : decide ((l0.length : Int) < (l0.length : Int)) = false := by simp
        have hc0 := (blk_cell HG.out 0).trans rfl
        have hc1 := (blk_cell HG.out 1).trans rfl
        have hc2 := (blk_cell HG.out 2).trans rfl
        cases a2 with
        | true =>
          have HT : Aside0 (headText l0 a1 true = headPre l0 l0.length) := ⟨by simp [headText]⟩
          go_wp2_with (go_at_call 57; (with_reducible refine (Tryz.Builder_String_any_f (g + 1) (g + 1) (headPre l0 l0.length) _ HI.out HZ.out).mono ?_); rintro e2 w2 ⟨rfl, hI2, hb2⟩)
          go_ret
          exact ⟨by rw [HT.out]; rfl, HB.out.trans (hb2.mono (by have := Hg.out; omega))⟩
        | false =>
          have HT : Aside0 (headText l0 a1 false = headPre l0 l0.length ++ 13 :: 10 :: a1.data.toList) := ⟨by simp [headText]⟩
          have HN : Aside0 ((Lib.byteCells (headPre l0 l0.length)).length + ((⟨#[13, 10]⟩ : ByteArray) ++ a1).size ≤ 140737488355328) := ⟨by
            have c := HS.out
            rw [HT.out, List.length_append, List.length_cons, List.length_cons, data_length] at c
            rw [ByteArray.size_append, Lib.byteCells, List.length_map]
            have : (⟨#[13, 10]⟩ : ByteArray).size = 2 := rfl
            omega⟩
          go_wp2_with (go_at_call 56; (with_reducible refine (Tryz.Builder_WriteString_f (g + 1) (g + 1) (Lib.byteCells (headPre l0 l0.length)) _ _ HI.out HN.out HZ.out).mono ?_); rintro e2 w2 ⟨rfl, hI2, hb2⟩)
          have HI2 : Aside0 (Lib.IsBuilderF 104 5 (g + 1) (g + 1) (Lib.byteCells (headText l0 a1 false)) w2) := ⟨by
            rw [HT.out, Lib.byteCells_append]
            have e : Lib.strCells ((⟨#[13, 10]⟩ : ByteArray) ++ a1) = Lib.byteCells (13 :: 10 :: a1.data.toList) := by
              rw [Lib.strCells_eq, ByteArray.data_append, Array.toList_append]; rfl
            rw [e] at hI2
            exact .inr hI2⟩
          clear hI2
          have HZ2 : Aside0 (g + 1 ≤ w2.heap.size) := ⟨Nat.le_trans HZ.out hb2.size⟩
          go_wp2_with (go_at_call 57; (with_reducible refine (Tryz.Builder_String_any_f (g + 1) (g + 1) (headText l0 a1 false) _ HI2.out HZ2.out).mono ?_); rintro e3 w3 ⟨rfl, hI3, hb3⟩)
          go_ret
          exact ⟨rfl, HB.out.trans ((hb2.trans hb3).mono (by have := Hg.out; omega))⟩
  · rw [if_neg hsz] at h; cases h


/-! ### head_Message_with: function 95 -/
def head_Message_with.f (l0_0 : List (S72)) (a0_1 : ByteArray) (a0_2 : Bool) (l1 : List (S72)) : Option ((List (S72)) × ByteArray × Bool × Int) := (head_Message_Text.f l1 a0_1 a0_2).bind fun t305 => (if (t305.size : Int) > 8192 then (some (([] : List (S72)), (⟨#[]⟩ : ByteArray), false, 3)) else (some (l1, a0_1, a0_2, 0)))
set_option maxHeartbeats 8000000 in
set_option maxRecDepth 100000 in
theorem head_Message_with.calls (A0_0 : Option Addr) (c0_0 : Nat) (l0_0 : List (S72)) (a0_1 : ByteArray) (a0_2 : Bool) (P1_ : Nat → Prop) (u9000_ : Value) (l1 : List (S72)) (r1 : List (S72)) (r2 : ByteArray) (r3 : Bool) (r4 : Int) (w0 w : World) (hB : Below w0.heap.size w0 w) (hr0_0 : ∀ W_, Kept w W_ (fun k_ => P1_ k_) → Kd.C k72 W_ A0_0 l0_0.length l0_0) (hc0_0 : l0_0.length ≤ c0_0) (ho1 : Kd.R k72 72 w w0.heap.size P1_ u9000_ l1) (h : head_Message_with.f l0_0 a0_1 a0_2 l1 = some (r1, r2, r3, r4)) :
  Calls Tryz.prog 95 #[.agg #[.slice A0_0 l0_0.length c0_0, .string a0_1, .bool a0_2], u9000_] w fun e w' => ∃ v0_ : Value, e = .returned (.tuple #[.agg #[v0_, .string r2, .bool r3], .int .i64 r4]) ∧ Kd.R k72 72 w' w0.heap.size (fun k_ => (P1_ k_ ∨ w.heap.size ≤ k_)) v0_ r1 ∧ Below w0.heap.size w0 w' ∧ Kept w w' (fun k_ => P1_ k_) := by
 have hu24 := Tryz.underlying24
 have HR0_0 := Aside0.mk hr0_0
 have HC0_0 := Aside0.mk hc0_0
 clear hr0_0 hc0_0
 have HO1 := Aside0.mk (show Kd.R k72 72 w w0.heap.size (fun k_ => (P1_ k_ ∨ w.heap.size ≤ k_)) u9000_ l1 from Kd.R_mono ho1 (fun k_ hk => (.inl hk)))
 have HK := Aside0.mk (Kept.refl w (fun k_ => P1_ k_))
 have HW0 := Aside0.mk hB.size
 have HB := Aside0.mk hB
 clear hB
 have H : ((head_Message_Text.f l1 a0_1 a0_2).bind fun t305 => (if (t305.size : Int) > 8192 then (some (([] : List (S72)), (⟨#[]⟩ : ByteArray), false, 3)) else (some (l1, a0_1, a0_2, 0)))) = some (r1, r2, r3, r4) := h
 clear h
 replace H := Option.bind_eq_some_iff.mp H
 obtain ⟨t305, A30, H⟩ := H
 replace H : (if (t305.size : Int) > 8192 then (some (([] : List (S72)), (⟨#[]⟩ : ByteArray), false, 3)) else (some (l1, a0_1, a0_2, 0))) = some (r1, r2, r3, r4) := H
 have A3 := Aside0.mk A30
 clear A30
 by_cases c4 : (t305.size : Int) > 8192
 ·rw [if_pos c4] at H
  have c4b0 : decide (8192 < (t305.size : Int)) = true := decide_eq_true c4
  have c4b1 : decide (8192 < t305.size) = true := decide_eq_true (by omega)
  clear c4
  simp only [Option.some.injEq, Prod.mk.injEq] at H
  obtain ⟨rfl, rfl, rfl, rfl⟩ := H
  go_enter Tryz.func95, Tryz.ntmps95
  go_wp2_with (first | ((with_reducible refine gate_dst (N := 2) rfl ?_); refine box_event ?hg (N := 2) ?hd (cs := #[.slice A0_0 l0_0.length c0_0, .string a0_1, .bool a0_2]) (t := 24) ?hr ?_; (case hd => rfl); (case hg => rfl); (case hr => first | (go_simp; done) | (go_simp; rfl)); intro gb303 hg w5 hbox hb; have n0_ := Aside0.mk (Kd.R_below (kr HO1.out) hb); have n1_ := Aside0.mk (Kept.below (S := (fun k_ => P1_ k_)) (by repeat (first | (with_reducible first | exact HK.out | apply Kept.alloc | apply Kept.drewN | apply Kept.drew) | exact HK.out)) hb); have n2_ := Aside0.mk (below_step bl hb); have n3_ := Aside0.mk (hbox); have n4_ := Aside0.mk ((by rw [hg]; exact (by first | exact HK.out.1 | exact (show Kept w _ (fun k_ => P1_ k_) from by repeat (first | (with_reducible first | exact HK.out | apply Kept.alloc | apply Kept.drewN | apply Kept.drew) | exact HK.out)).1) : w.heap.size ≤ gb303)); have n5_ := Aside0.mk ((by rw [hg]; exact (below_size bl) : w0.heap.size ≤ gb303)); clear HO1; clear HK; clear HB; have HO1 := n0_; have HK := n1_; have HB := n2_; have BK303 := n3_; have GW303 := n4_; have GE303 := n5_; clear n0_ n1_ n2_ n3_ n4_ n5_; clear hb hbox hg) | ((with_reducible refine gate_dst (N := 4) rfl ?_); refine box_event ?hg (N := 4) ?hd (cs := #[.slice none 0 0, .string (⟨#[]⟩ : ByteArray), .bool false]) (t := 24) ?hr ?_; (case hd => rfl); (case hg => rfl); (case hr => first | (go_simp; done) | (go_simp; rfl)); intro gb304 hg w6 hbox hb; have n0_ := Aside0.mk (Kd.R_below (kr HO1.out) hb); have n1_ := Aside0.mk (kb BK303.out hb); have n2_ := Aside0.mk (Kept.below (S := (fun k_ => P1_ k_)) (by repeat (first | (with_reducible first | exact HK.out | apply Kept.alloc | apply Kept.drewN | apply Kept.drew | refine Kept.setCell ?_ (.inr GW303.out) _) | exact HK.out)) hb); have n3_ := Aside0.mk (below_step bl hb); have n4_ := Aside0.mk (hbox); have n5_ := Aside0.mk ((by rw [hg]; exact (by first | exact HK.out.1 | exact (show Kept w _ (fun k_ => P1_ k_) from by repeat (first | (with_reducible first | exact HK.out | apply Kept.alloc | apply Kept.drewN | apply Kept.drew | refine Kept.setCell ?_ (.inr GW303.out) _) | exact HK.out)).1) : w.heap.size ≤ gb304)); have n6_ := Aside0.mk ((by rw [hg]; exact (below_size bl) : w0.heap.size ≤ gb304)); have n7_ := Aside0.mk ((by rw [hg]; exact Nat.ne_of_lt (blk_lt (bk BK303.out)) : gb303 ≠ gb304)); have n8_ := Aside0.mk ((by rw [hg]; exact Nat.ne_of_gt (blk_lt (bk BK303.out)) : gb304 ≠ gb303)); clear HO1; clear BK303; clear HK; clear HB; have HO1 := n0_; have BK303 := n1_; have HK := n2_; have HB := n3_; have BK304 := n4_; have GW304 := n5_; have GE304 := n6_; have NB303_304 := n7_; have NB304_303 := n8_; clear n0_ n1_ n2_ n3_ n4_ n5_ n6_ n7_ n8_; clear hb hbox hg; obtain ⟨Ao7, co7, eo7⟩ := Kd.R_slice HO1.out; subst eo7; have hnb8 := NB303_304.out; have hnc8 := NB304_303.out; have hcz9_0 : w6.cell? ⟨gb303, 0, none⟩ = some (.slice A0_0 l0_0.length c0_0) := (blk_cell BK303.out 0).trans rfl; have hcz9_1 : w6.cell? ⟨gb303, 1, none⟩ = some (.string a0_1) := (blk_cell BK303.out 1).trans rfl; have hcz9_2 : w6.cell? ⟨gb303, 2, none⟩ = some (.bool a0_2) := (blk_cell BK303.out 2).trans rfl; have hfz9_0 := blk_frozen BK303.out 0; have hfz9_1 := blk_frozen BK303.out 1; have hfz9_2 := blk_frozen BK303.out 2) | ((with_reducible refine gate_callee (f := 25) rfl ?_); refine goesL_ (some 9) rfl rfl Tryz.func25 (by kernel_rfl) rfl #[.agg #[.slice Ao7 l1.length co7, .string a0_1, .bool a0_2]] rfl ml ?_; (with_reducible refine (head_Message_Text.calls _ _ l1 a0_1 a0_2 t305 _ ?side1 ?side2 A3.out).mono ?_); (case side1 => refine (Kd.R_reads' (e := 72) (base := w0.heap.size) (ok := fun k_ => (P1_ k_ ∨ w.heap.size ≤ k_)) (n := l1.length) (c := co7) ?_).2.2; exact (by (with_reducible repeat (first | apply Kd.R_alloc | apply Kd.R_drewN | apply Kd.R_drew)); exact (Kd.R_mono (Kd.R_far (p := ⟨gb303, 0, none⟩) (Kd.R_types HO1.out BK303.out (by decide)) (fun _ hk => hk.2) (.slice Ao7 l1.length co7)) (fun _ h_ => h_.1)))); (case side2 => exact (Kd.R_reads' HO1.out).2.1); rintro e w10 ⟨rfl, hb⟩; refine ⟨_, rfl, ?_⟩; have n0_ := Aside0.mk (Kd.R_below (by (with_reducible repeat (first | apply Kd.R_alloc | apply Kd.R_drewN | apply Kd.R_drew)); exact (Kd.R_mono (Kd.R_far (p := ⟨gb303, 0, none⟩) (Kd.R_types HO1.out BK303.out (by decide)) (fun _ hk => hk.2) (.slice Ao7 l1.length co7)) (fun _ h_ => h_.1))) hb); have n1_ := Aside0.mk (blk_below (g := gb303) (o := .cells #[.slice Ao7 l1.length co7, .string a0_1, .bool a0_2] 24 (0, 0)) (by (with_reducible repeat (first | refine blk_drewN ?_ _ | refine blk_drew ?_ | refine blk_alloc ?_ _)); refine blk_put (cs := #[.slice A0_0 l0_0.length c0_0, .string a0_1, .bool a0_2]) ?_ 0 _ rfl; (with_reducible repeat (first | refine blk_drewN ?_ _ | refine blk_drew ?_ | refine blk_alloc ?_ _)); exact BK303.out) hb); have n2_ := Aside0.mk (kb BK304.out hb); have n3_ := Aside0.mk (Kept.below (S := (fun k_ => P1_ k_)) (by repeat (first | (with_reducible first | exact HK.out | apply Kept.alloc | apply Kept.drewN | apply Kept.drew | refine Kept.setCell ?_ (.inr GW303.out) _ | refine Kept.setCell ?_ (.inr GW304.out) _) | exact HK.out)) hb); have n4_ := Aside0.mk (below_step bl hb); clear HO1; clear BK303; clear BK304; clear HK; clear HB; have HO1 := n0_; have BK303 := n1_; have BK304 := n2_; have HK := n3_; have HB := n4_; clear n0_ n1_ n2_ n3_ n4_; (try clear hb); (try clear hb2); (try clear hk); (try clear hi); have hcz11_0 : w10.cell? ⟨gb304, 0, none⟩ = some (.slice none 0 0) := (blk_cell BK304.out 0).trans rfl; have hcz11_1 : w10.cell? ⟨gb304, 1, none⟩ = some (.string (⟨#[]⟩ : ByteArray)) := (blk_cell BK304.out 1).trans rfl; have hcz11_2 : w10.cell? ⟨gb304, 2, none⟩ = some (.bool false) := (blk_cell BK304.out 2).trans rfl; have hfz11_0 := blk_frozen BK304.out 0; have hfz11_1 := blk_frozen BK304.out 1; have hfz11_2 := blk_frozen BK304.out 2))
  refine bodyPost_ret (results_ct rfl _ _ gb304 24 #[.slice none 0 0, .string (⟨#[]⟩ : ByteArray), .bool false] (0, 0) _ rfl (by (with_reducible repeat (first | refine blk_drewN ?_ _ | refine blk_drew ?_ | refine blk_alloc ?_ _)); refine blk_put (cs := #[.slice none 0 0, .string (⟨#[]⟩ : ByteArray), .bool false]) ?_ 2 _ rfl; (with_reducible repeat (first | refine blk_drewN ?_ _ | refine blk_drew ?_ | refine blk_alloc ?_ _)); refine blk_put (cs := #[.slice none 0 0, .string (⟨#[]⟩ : ByteArray), .bool false]) ?_ 1 _ rfl; (with_reducible repeat (first | refine blk_drewN ?_ _ | refine blk_drew ?_ | refine blk_alloc ?_ _)); refine blk_put (cs := #[.slice none 0 0, .string (⟨#[]⟩ : ByteArray), .bool false]) ?_ 0 _ rfl; (with_reducible repeat (first | refine blk_drewN ?_ _ | refine blk_drew ?_ | refine blk_alloc ?_ _)); exact BK304.out) Tryz.underlying24 rfl (by kernel_rfl)) rfl ?_
  exact ⟨_, by first | rfl | (simp [errW_none, errW_some] <;> rfl) | (simp [*, errW_none, errW_some] <;> rfl), by first | exact Kd.R_nil _ _ _ _ _ | exact Kd.N_nil _ _ _ _ _ | exact Kd.V_nil _ _ _ _ _ | exact Kd.Q_nil _ _ _ _ _ | exact Kd.S_nil _ _ _ _ _, by repeat (first | (with_reducible first | exact HB.out | apply below_alloc | apply pw_below_drewN | apply below_drew1 | refine below_set ?_ GE303.out | refine below_set ?_ GE304.out) | exact HB.out), by repeat (first | (with_reducible first | exact HK.out | apply Kept.alloc | apply Kept.drewN | apply Kept.drew | refine Kept.setCell ?_ (.inr GW303.out) _ | refine Kept.setCell ?_ (.inr GW304.out) _) | exact HK.out)⟩
 ·rw [if_neg c4] at H
  have c4b0 : decide (8192 < (t305.size : Int)) = false := decide_eq_false c4
  have c4b1 : decide (8192 < t305.size) = false := decide_eq_false (by omega)
  clear c4
  simp only [Option.some.injEq, Prod.mk.injEq] at H
  obtain ⟨rfl, rfl, rfl, rfl⟩ := H
  go_enter Tryz.func95, Tryz.ntmps95
  go_wp2_with (first | ((with_reducible refine gate_dst (N := 2) rfl ?_); refine box_event ?hg (N := 2) ?hd (cs := #[.slice A0_0 l0_0.length c0_0, .string a0_1, .bool a0_2]) (t := 24) ?hr ?_; (case hd => rfl); (case hg => rfl); (case hr => first | (go_simp; done) | (go_simp; rfl)); intro gb303 hg w12 hbox hb; have n0_ := Aside0.mk (Kd.R_below (kr HO1.out) hb); have n1_ := Aside0.mk (Kept.below (S := (fun k_ => P1_ k_)) (by repeat (first | (with_reducible first | exact HK.out | apply Kept.alloc | apply Kept.drewN | apply Kept.drew) | exact HK.out)) hb); have n2_ := Aside0.mk (below_step bl hb); have n3_ := Aside0.mk (hbox); have n4_ := Aside0.mk ((by rw [hg]; exact (by first | exact HK.out.1 | exact (show Kept w _ (fun k_ => P1_ k_) from by repeat (first | (with_reducible first | exact HK.out | apply Kept.alloc | apply Kept.drewN | apply Kept.drew) | exact HK.out)).1) : w.heap.size ≤ gb303)); have n5_ := Aside0.mk ((by rw [hg]; exact (below_size bl) : w0.heap.size ≤ gb303)); clear HO1; clear HK; clear HB; have HO1 := n0_; have HK := n1_; have HB := n2_; have BK303 := n3_; have GW303 := n4_; have GE303 := n5_; clear n0_ n1_ n2_ n3_ n4_ n5_; clear hb hbox hg) | ((with_reducible refine gate_dst (N := 4) rfl ?_); refine box_event ?hg (N := 4) ?hd (cs := #[.slice none 0 0, .string (⟨#[]⟩ : ByteArray), .bool false]) (t := 24) ?hr ?_; (case hd => rfl); (case hg => rfl); (case hr => first | (go_simp; done) | (go_simp; rfl)); intro gb304 hg w13 hbox hb; have n0_ := Aside0.mk (Kd.R_below (kr HO1.out) hb); have n1_ := Aside0.mk (kb BK303.out hb); have n2_ := Aside0.mk (Kept.below (S := (fun k_ => P1_ k_)) (by repeat (first | (with_reducible first | exact HK.out | apply Kept.alloc | apply Kept.drewN | apply Kept.drew | refine Kept.setCell ?_ (.inr GW303.out) _) | exact HK.out)) hb); have n3_ := Aside0.mk (below_step bl hb); have n4_ := Aside0.mk (hbox); have n5_ := Aside0.mk ((by rw [hg]; exact (by first | exact HK.out.1 | exact (show Kept w _ (fun k_ => P1_ k_) from by repeat (first | (with_reducible first | exact HK.out | apply Kept.alloc | apply Kept.drewN | apply Kept.drew | refine Kept.setCell ?_ (.inr GW303.out) _) | exact HK.out)).1) : w.heap.size ≤ gb304)); have n6_ := Aside0.mk ((by rw [hg]; exact (below_size bl) : w0.heap.size ≤ gb304)); have n7_ := Aside0.mk ((by rw [hg]; exact Nat.ne_of_lt (blk_lt (bk BK303.out)) : gb303 ≠ gb304)); have n8_ := Aside0.mk ((by rw [hg]; exact Nat.ne_of_gt (blk_lt (bk BK303.out)) : gb304 ≠ gb303)); clear HO1; clear BK303; clear HK; clear HB; have HO1 := n0_; have BK303 := n1_; have HK := n2_; have HB := n3_; have BK304 := n4_; have GW304 := n5_; have GE304 := n6_; have NB303_304 := n7_; have NB304_303 := n8_; clear n0_ n1_ n2_ n3_ n4_ n5_ n6_ n7_ n8_; clear hb hbox hg; obtain ⟨Ao14, co14, eo14⟩ := Kd.R_slice HO1.out; subst eo14; have hnb15 := NB303_304.out; have hnc15 := NB304_303.out; have hcz16_0 : w13.cell? ⟨gb303, 0, none⟩ = some (.slice A0_0 l0_0.length c0_0) := (blk_cell BK303.out 0).trans rfl; have hcz16_1 : w13.cell? ⟨gb303, 1, none⟩ = some (.string a0_1) := (blk_cell BK303.out 1).trans rfl; have hcz16_2 : w13.cell? ⟨gb303, 2, none⟩ = some (.bool a0_2) := (blk_cell BK303.out 2).trans rfl; have hfz16_0 := blk_frozen BK303.out 0; have hfz16_1 := blk_frozen BK303.out 1; have hfz16_2 := blk_frozen BK303.out 2) | ((with_reducible refine gate_callee (f := 25) rfl ?_); refine goesL_ (some 9) rfl rfl Tryz.func25 (by kernel_rfl) rfl #[.agg #[.slice Ao14 l1.length co14, .string a0_1, .bool a0_2]] rfl ml ?_; (with_reducible refine (head_Message_Text.calls _ _ l1 a0_1 a0_2 t305 _ ?side1 ?side2 A3.out).mono ?_); (case side1 => refine (Kd.R_reads' (e := 72) (base := w0.heap.size) (ok := fun k_ => (P1_ k_ ∨ w.heap.size ≤ k_)) (n := l1.length) (c := co14) ?_).2.2; exact (by (with_reducible repeat (first | apply Kd.R_alloc | apply Kd.R_drewN | apply Kd.R_drew)); exact (Kd.R_mono (Kd.R_far (p := ⟨gb303, 0, none⟩) (Kd.R_types HO1.out BK303.out (by decide)) (fun _ hk => hk.2) (.slice Ao14 l1.length co14)) (fun _ h_ => h_.1)))); (case side2 => exact (Kd.R_reads' HO1.out).2.1); rintro e w17 ⟨rfl, hb⟩; refine ⟨_, rfl, ?_⟩; have n0_ := Aside0.mk (Kd.R_below (by (with_reducible repeat (first | apply Kd.R_alloc | apply Kd.R_drewN | apply Kd.R_drew)); exact (Kd.R_mono (Kd.R_far (p := ⟨gb303, 0, none⟩) (Kd.R_types HO1.out BK303.out (by decide)) (fun _ hk => hk.2) (.slice Ao14 l1.length co14)) (fun _ h_ => h_.1))) hb); have n1_ := Aside0.mk (blk_below (g := gb303) (o := .cells #[.slice Ao14 l1.length co14, .string a0_1, .bool a0_2] 24 (0, 0)) (by (with_reducible repeat (first | refine blk_drewN ?_ _ | refine blk_drew ?_ | refine blk_alloc ?_ _)); refine blk_put (cs := #[.slice A0_0 l0_0.length c0_0, .string a0_1, .bool a0_2]) ?_ 0 _ rfl; (with_reducible repeat (first | refine blk_drewN ?_ _ | refine blk_drew ?_ | refine blk_alloc ?_ _)); exact BK303.out) hb); have n2_ := Aside0.mk (kb BK304.out hb); have n3_ := Aside0.mk (Kept.below (S := (fun k_ => P1_ k_)) (by repeat (first | (with_reducible first | exact HK.out | apply Kept.alloc | apply Kept.drewN | apply Kept.drew | refine Kept.setCell ?_ (.inr GW303.out) _ | refine Kept.setCell ?_ (.inr GW304.out) _) | exact HK.out)) hb); have n4_ := Aside0.mk (below_step bl hb); clear HO1; clear BK303; clear BK304; clear HK; clear HB; have HO1 := n0_; have BK303 := n1_; have BK304 := n2_; have HK := n3_; have HB := n4_; clear n0_ n1_ n2_ n3_ n4_; (try clear hb); (try clear hb2); (try clear hk); (try clear hi); have hcz18_0 : w17.cell? ⟨gb303, 0, none⟩ = some (.slice Ao14 l1.length co14) := (blk_cell BK303.out 0).trans rfl; have hcz18_1 : w17.cell? ⟨gb303, 1, none⟩ = some (.string a0_1) := (blk_cell BK303.out 1).trans rfl; have hcz18_2 : w17.cell? ⟨gb303, 2, none⟩ = some (.bool a0_2) := (blk_cell BK303.out 2).trans rfl; have hfz18_0 := blk_frozen BK303.out 0; have hfz18_1 := blk_frozen BK303.out 1; have hfz18_2 := blk_frozen BK303.out 2; have hcz19_0 : w17.cell? ⟨gb304, 0, none⟩ = some (.slice none 0 0) := (blk_cell BK304.out 0).trans rfl; have hcz19_1 : w17.cell? ⟨gb304, 1, none⟩ = some (.string (⟨#[]⟩ : ByteArray)) := (blk_cell BK304.out 1).trans rfl; have hcz19_2 : w17.cell? ⟨gb304, 2, none⟩ = some (.bool false) := (blk_cell BK304.out 2).trans rfl; have hfz19_0 := blk_frozen BK304.out 0; have hfz19_1 := blk_frozen BK304.out 1; have hfz19_2 := blk_frozen BK304.out 2))
  refine bodyPost_ret (results_ct rfl _ _ gb304 24 #[.slice Ao14 l1.length co14, .string a0_1, .bool a0_2] (0, 0) _ rfl (by (with_reducible repeat (first | refine blk_drewN ?_ _ | refine blk_drew ?_ | refine blk_alloc ?_ _)); refine blk_put (cs := #[.slice Ao14 l1.length co14, .string a0_1, .bool false]) ?_ 2 _ rfl; (with_reducible repeat (first | refine blk_drewN ?_ _ | refine blk_drew ?_ | refine blk_alloc ?_ _)); refine blk_put (cs := #[.slice Ao14 l1.length co14, .string (⟨#[]⟩ : ByteArray), .bool false]) ?_ 1 _ rfl; (with_reducible repeat (first | refine blk_drewN ?_ _ | refine blk_drew ?_ | refine blk_alloc ?_ _)); refine blk_put (cs := #[.slice none 0 0, .string (⟨#[]⟩ : ByteArray), .bool false]) ?_ 0 _ rfl; (with_reducible repeat (first | refine blk_drewN ?_ _ | refine blk_drew ?_ | refine blk_alloc ?_ _)); exact BK304.out) Tryz.underlying24 rfl (by kernel_rfl)) rfl ?_
  exact ⟨_, by first | rfl | (simp [errW_none, errW_some] <;> rfl) | (simp [*, errW_none, errW_some] <;> rfl), by (with_reducible repeat (first | apply Kd.R_alloc | apply Kd.R_drewN | apply Kd.R_drew)); exact Kd.R_mono (Kd.R_far (p := ⟨gb304, 2, none⟩) (Kd.R_far (p := ⟨gb304, 1, none⟩) (Kd.R_far (p := ⟨gb304, 0, none⟩) (Kd.R_types HO1.out BK304.out (by decide)) (fun _ hk => hk.2) (.slice Ao14 l1.length co14)) (fun _ hk => hk.2) (.string a0_1)) (fun _ hk => hk.2) (.bool a0_2)) (fun _ hk => hk.1), by repeat (first | (with_reducible first | exact HB.out | apply below_alloc | apply pw_below_drewN | apply below_drew1 | refine below_set ?_ GE303.out | refine below_set ?_ GE304.out) | exact HB.out), by repeat (first | (with_reducible first | exact HK.out | apply Kept.alloc | apply Kept.drewN | apply Kept.drew | refine Kept.setCell ?_ (.inr GW303.out) _ | refine Kept.setCell ?_ (.inr GW304.out) _) | exact HK.out)⟩

end Go.Proofs.YtacjnapgdikhbaaGreatDoor.Q
end
