/- Walks of functions. -/
import Derived.Test.YtdciiahlakgikaaDoorQx0
section
namespace Go.Proofs.YtdciiahlakgikaaDoor.Q
open Go.RowKit Go.Proofs.YtdciiahlakgikaaDoorW.PrintWords Go.Proofs.YtdciiahlakgikaaDoorW.PrintLast Go.Proofs.YtdciiahlakgikaaDoorW.PrintMore
attribute [local go_sem] max2_int min2_int max_two min_two max_three min_three max_four min_four   -- for this text's walks alone
set_option linter.unusedVariables false
set_option linter.unusedSimpArgs false

/-! ### head_Parse: function 9 -/
mutual
def head_Parse.j1 : Nat → List ByteArray → Bool → ByteArray → Bool → Option ((List (S41)) × ByteArray × Bool × Int)
 | 0, _, _, _, _ => none
 | k + 1, x4, x5, x144001, x144002 => head_Parse.l1 k x4 x5 ([] : List (S41)) x144001 x144002
def head_Parse.l1 : Nat → List ByteArray → Bool → List (S41) → ByteArray → Bool → Option ((List (S41)) × ByteArray × Bool × Int)
 | 0, _, _, _, _, _ => none
 | k + 1, x4, x5, x144000, x144001, x144002 => if x5 = true then (head_Parse.j3 k x4 x5 (decide ((x4.length : Int) > 0)) x144000 x144001 x144002) else (head_Parse.j3 k x4 x5 false x144000 x144001 x144002)
def head_Parse.j3 : Nat → List ByteArray → Bool → Bool → List (S41) → ByteArray → Bool → Option ((List (S41)) × ByteArray × Bool × Int)
 | 0, _, _, _, _, _, _ => none
 | k + 1, x4, x5, x53, x144000, x144001, x144002 => if x53 = true then (head_Parse.l2 k x4 1 x144000 x144001 x144002) else (if x5 = true then (some (x144000, x144001, x144002, 0)) else (some (([] : List (S41)), (⟨#[]⟩ : ByteArray), false, 5)))
def head_Parse.l2 : Nat → List ByteArray → Int → List (S41) → ByteArray → Bool → Option ((List (S41)) × ByteArray × Bool × Int)
 | 0, _, _, _, _, _ => none
 | k + 1, x4, x10, x144000, x144001, x144002 => if x10 < (x4.length : Int) then (if 0 ≤ x10 then ((head_white.f (rdOf ByteArray.empty x4 x10)).bind fun t154 => (if t154 = true then (head_Parse.l2 k x4 (wrap64 (x10 + 1)) x144000 x144001 x144002) else (if x10 ≤ (x4.length : Int) then ((head_field.f k (x4.take (x10 : Int).toNat)).bind fun bt160 => (if bt160.2.2.2 = true then (if x144000.length < 2932031007402 then (head_Parse.l1 k (x4.drop (x10 : Int).toNat) bt160.2.2.2 (x144000 ++ [(⟨bt160.1, bt160.2.1, bt160.2.2.1⟩ : S41)]) x144001 x144002) else (none)) else (head_Parse.l1 k (x4.drop (x10 : Int).toNat) bt160.2.2.2 x144000 x144001 x144002))) else (none)))) else (none)) else (if 0 ≤ x10 then (if x10 ≤ (x4.length : Int) then ((head_field.f k (x4.take (x10 : Int).toNat)).bind fun bt178 => (if bt178.2.2.2 = true then (if x144000.length < 2932031007402 then (head_Parse.l1 k (x4.drop (x10 : Int).toNat) bt178.2.2.2 (x144000 ++ [(⟨bt178.1, bt178.2.1, bt178.2.2.1⟩ : S41)]) x144001 x144002) else (none)) else (head_Parse.l1 k (x4.drop (x10 : Int).toNat) bt178.2.2.2 x144000 x144001 x144002))) else (none)) else (none))
def head_Parse.l0 : Nat → List ByteArray → Bool → Int → List ByteArray → Int → Int → ByteArray → Bool → Option ((List (S41)) × ByteArray × Bool × Int)
 | 0, _, _, _, _, _, _, _, _ => none
 | k + 1, x4, x5, x6, x32, x33, x34, x144001, x144002 => if x34 < x33 then (if 0 ≤ x34 then (if x34 < (x32.length : Int) then (if (rdOf ByteArray.empty x32 x34).size + 2 ≤ 9223372036854775807 then (if x144001.size + ((rdOf ByteArray.empty x32 x34) ++ (⟨#[13, 10]⟩ : ByteArray)).size ≤ 9223372036854775807 then (head_Parse.l0 k x4 x5 x6 x32 x33 (wrap64 (x34 + 1)) (x144001 ++ ((rdOf ByteArray.empty x32 x34) ++ (⟨#[13, 10]⟩ : ByteArray))) x144002) else (none)) else (none)) else (none)) else (none)) else (if 0 ≤ x6 then (if x6 ≤ (x4.length : Int) then (head_Parse.j1 k (x4.take (x6 : Int).toNat) x5 x144001 x144002) else (none)) else (none))
end
def head_Parse.f (k : Nat) (a0 : ByteArray) : Option ((List (S41)) × ByteArray × Bool × Int) := if (a0.size : Int) > 8192 then (some (([] : List (S41)), (⟨#[]⟩ : ByteArray), false, 3)) else ((head_lines.f k a0).bind fun bt138 => ((slices_Index_string_string.f bt138.1 (⟨#[]⟩ : ByteArray)).bind fun t142 => (if t142 < 0 then (head_Parse.j1 k bt138.1 bt138.2 (⟨#[]⟩ : ByteArray) (decide (t142 < 0))) else (if 0 ≤ (wrap64 (t142 + 1)) then (if (wrap64 (t142 + 1)) ≤ (bt138.1.length : Int) then ((some (bt138.1.drop ((wrap64 (t142 + 1)) : Int).toNat : List ByteArray)).bind fun y144 => (head_Parse.l0 k bt138.1 bt138.2 t142 y144 (y144.length : Int) 0 (⟨#[]⟩ : ByteArray) (decide (t142 < 0)))) else (none)) else (none)))))
theorem head_Parse.mono_l : ∀ k, (∀ y0 y1 y2 y3, LeO (head_Parse.j1 k y0 y1 y2 y3) (head_Parse.j1 (k + 1) y0 y1 y2 y3)) ∧ (∀ y0 y1 y2 y3 y4, LeO (head_Parse.l1 k y0 y1 y2 y3 y4) (head_Parse.l1 (k + 1) y0 y1 y2 y3 y4)) ∧ (∀ y0 y1 y2 y3 y4 y5, LeO (head_Parse.j3 k y0 y1 y2 y3 y4 y5) (head_Parse.j3 (k + 1) y0 y1 y2 y3 y4 y5)) ∧ (∀ y0 y1 y2 y3 y4, LeO (head_Parse.l2 k y0 y1 y2 y3 y4) (head_Parse.l2 (k + 1) y0 y1 y2 y3 y4)) ∧ (∀ y0 y1 y2 y3 y4 y5 y6 y7, LeO (head_Parse.l0 k y0 y1 y2 y3 y4 y5 y6 y7) (head_Parse.l0 (k + 1) y0 y1 y2 y3 y4 y5 y6 y7))
 | 0 => ⟨fun _ _ _ _ r h => by simp [head_Parse.j1] at h, fun _ _ _ _ _ r h => by simp [head_Parse.l1] at h, fun _ _ _ _ _ _ r h => by simp [head_Parse.j3] at h, fun _ _ _ _ _ r h => by simp [head_Parse.l2] at h, fun _ _ _ _ _ _ _ _ r h => by simp [head_Parse.l0] at h⟩
 | k + 1 => by
  obtain ⟨ih0, ih1, ih2, ih3, ih4⟩ := head_Parse.mono_l k
  refine ⟨?_, ?_, ?_, ?_, ?_⟩
  ·intro y0 y1 y2 y3
   unfold head_Parse.j1
   repeat' first
   | (with_reducible exact ih0 _ _ _ _)
   | (with_reducible exact ih1 _ _ _ _ _)
   | (with_reducible exact ih2 _ _ _ _ _ _)
   | (with_reducible exact ih3 _ _ _ _ _)
   | (with_reducible exact ih4 _ _ _ _ _ _ _ _)
   | (with_reducible exact head_field.mono _ _)
   | (with_reducible exact head_lines.mono _ _)
   | (with_reducible exact LeO.refl _)
   | (with_reducible exact LeO.none _)
   | (with_reducible refine LeO.ite ?_ ?_)
   | (with_reducible refine LeO.bind ?_ (fun _ => ?_))
   | exact ih0 _ _ _ _
   | exact ih1 _ _ _ _ _
   | exact ih2 _ _ _ _ _ _
   | exact ih3 _ _ _ _ _
   | exact ih4 _ _ _ _ _ _ _ _
   | exact head_field.mono _ _
   | exact head_lines.mono _ _
   | exact LeO.none _
   | refine LeO.ite ?_ ?_
   | refine LeO.bind ?_ (fun _ => ?_)
  ·intro y0 y1 y2 y3 y4
   unfold head_Parse.l1
   repeat' first
   | (with_reducible exact ih0 _ _ _ _)
   | (with_reducible exact ih1 _ _ _ _ _)
   | (with_reducible exact ih2 _ _ _ _ _ _)
   | (with_reducible exact ih3 _ _ _ _ _)
   | (with_reducible exact ih4 _ _ _ _ _ _ _ _)
   | (with_reducible exact head_field.mono _ _)
   | (with_reducible exact head_lines.mono _ _)
   | (with_reducible exact LeO.refl _)
   | (with_reducible exact LeO.none _)
   | (with_reducible refine LeO.ite ?_ ?_)
   | (with_reducible refine LeO.bind ?_ (fun _ => ?_))
   | exact ih0 _ _ _ _
   | exact ih1 _ _ _ _ _
   | exact ih2 _ _ _ _ _ _
   | exact ih3 _ _ _ _ _
   | exact ih4 _ _ _ _ _ _ _ _
   | exact head_field.mono _ _
   | exact head_lines.mono _ _
   | exact LeO.none _
   | refine LeO.ite ?_ ?_
   | refine LeO.bind ?_ (fun _ => ?_)
  ·intro y0 y1 y2 y3 y4 y5
   unfold head_Parse.j3
   repeat' first
   | (with_reducible exact ih0 _ _ _ _)
   | (with_reducible exact ih1 _ _ _ _ _)
   | (with_reducible exact ih2 _ _ _ _ _ _)
   | (with_reducible exact ih3 _ _ _ _ _)
   | (with_reducible exact ih4 _ _ _ _ _ _ _ _)
   | (with_reducible exact head_field.mono _ _)
   | (with_reducible exact head_lines.mono _ _)
   | (with_reducible exact LeO.refl _)
   | (with_reducible exact LeO.none _)
   | (with_reducible refine LeO.ite ?_ ?_)
   | (with_reducible refine LeO.bind ?_ (fun _ => ?_))
   | exact ih0 _ _ _ _
   | exact ih1 _ _ _ _ _
   | exact ih2 _ _ _ _ _ _
   | exact ih3 _ _ _ _ _
   | exact ih4 _ _ _ _ _ _ _ _
   | exact head_field.mono _ _
   | exact head_lines.mono _ _
   | exact LeO.none _
   | refine LeO.ite ?_ ?_
   | refine LeO.bind ?_ (fun _ => ?_)
  ·intro y0 y1 y2 y3 y4
   unfold head_Parse.l2
   repeat' first
   | (with_reducible exact ih0 _ _ _ _)
   | (with_reducible exact ih1 _ _ _ _ _)
   | (with_reducible exact ih2 _ _ _ _ _ _)
   | (with_reducible exact ih3 _ _ _ _ _)
   | (with_reducible exact ih4 _ _ _ _ _ _ _ _)
   | (with_reducible exact head_field.mono _ _)
   | (with_reducible exact head_lines.mono _ _)
   | (with_reducible exact LeO.refl _)
   | (with_reducible exact LeO.none _)
   | (with_reducible refine LeO.ite ?_ ?_)
   | (with_reducible refine LeO.bind ?_ (fun _ => ?_))
   | exact ih0 _ _ _ _
   | exact ih1 _ _ _ _ _
   | exact ih2 _ _ _ _ _ _
   | exact ih3 _ _ _ _ _
   | exact ih4 _ _ _ _ _ _ _ _
   | exact head_field.mono _ _
   | exact head_lines.mono _ _
   | exact LeO.none _
   | refine LeO.ite ?_ ?_
   | refine LeO.bind ?_ (fun _ => ?_)
  ·intro y0 y1 y2 y3 y4 y5 y6 y7
   unfold head_Parse.l0
   repeat' first
   | (with_reducible exact ih0 _ _ _ _)
   | (with_reducible exact ih1 _ _ _ _ _)
   | (with_reducible exact ih2 _ _ _ _ _ _)
   | (with_reducible exact ih3 _ _ _ _ _)
   | (with_reducible exact ih4 _ _ _ _ _ _ _ _)
   | (with_reducible exact head_field.mono _ _)
   | (with_reducible exact head_lines.mono _ _)
   | (with_reducible exact LeO.refl _)
   | (with_reducible exact LeO.none _)
   | (with_reducible refine LeO.ite ?_ ?_)
   | (with_reducible refine LeO.bind ?_ (fun _ => ?_))
   | exact ih0 _ _ _ _
   | exact ih1 _ _ _ _ _
   | exact ih2 _ _ _ _ _ _
   | exact ih3 _ _ _ _ _
   | exact ih4 _ _ _ _ _ _ _ _
   | exact head_field.mono _ _
   | exact head_lines.mono _ _
   | exact LeO.none _
   | refine LeO.ite ?_ ?_
   | refine LeO.bind ?_ (fun _ => ?_)
theorem head_Parse.mono : ∀ a0 k, LeO (head_Parse.f k a0) (head_Parse.f (k + 1) a0) := by
 intro a0 k
 obtain ⟨ih0, ih1, ih2, ih3, ih4⟩ := head_Parse.mono_l k
 unfold head_Parse.f
 repeat' first
   | (with_reducible exact ih0 _ _ _ _)
   | (with_reducible exact ih1 _ _ _ _ _)
   | (with_reducible exact ih2 _ _ _ _ _ _)
   | (with_reducible exact ih3 _ _ _ _ _)
   | (with_reducible exact ih4 _ _ _ _ _ _ _ _)
   | (with_reducible exact head_field.mono _ _)
   | (with_reducible exact head_lines.mono _ _)
   | (with_reducible exact LeO.refl _)
   | (with_reducible exact LeO.none _)
   | (with_reducible refine LeO.ite ?_ ?_)
   | (with_reducible refine LeO.bind ?_ (fun _ => ?_))
   | exact ih0 _ _ _ _
   | exact ih1 _ _ _ _ _
   | exact ih2 _ _ _ _ _ _
   | exact ih3 _ _ _ _ _
   | exact ih4 _ _ _ _ _ _ _ _
   | exact head_field.mono _ _
   | exact head_lines.mono _ _
   | exact LeO.none _
   | refine LeO.ite ?_ ?_
   | refine LeO.bind ?_ (fun _ => ?_)
set_option maxHeartbeats 8000000 in
set_option maxRecDepth 100000 in
theorem head_Parse.calls (k : Nat) (a0 : ByteArray) (r1 : List (S41)) (r2 : ByteArray) (r3 : Bool) (r4 : Int) (w : World) (hG : Glob w) (h : head_Parse.f k a0 = some (r1, r2, r3, r4)) :
  Calls Tryd.prog 9 #[.string a0] w fun e w' => ∃ v0_ : Value, e = .returned (.tuple #[.agg #[v0_, .string r2, .bool r3], .int .i64 r4]) ∧ Kd.R k41 41 w' w.heap.size (fun _ => True) v0_ r1 ∧ Below w.heap.size w w' := by
 have hu24 := Tryd.underlying24
 have hu41 := Tryd.underlying41
 have HB := Aside0.mk (Below.refl w.heap.size w)
 have HG := Aside0.mk hG
 clear hG
 have H : (if (a0.size : Int) > 8192 then (some (([] : List (S41)), (⟨#[]⟩ : ByteArray), false, 3)) else ((head_lines.f k a0).bind fun bt138 => ((slices_Index_string_string.f bt138.1 (⟨#[]⟩ : ByteArray)).bind fun t142 => (if t142 < 0 then (head_Parse.j1 k bt138.1 bt138.2 (⟨#[]⟩ : ByteArray) (decide (t142 < 0))) else (if 0 ≤ (wrap64 (t142 + 1)) then (if (wrap64 (t142 + 1)) ≤ (bt138.1.length : Int) then ((some (bt138.1.drop ((wrap64 (t142 + 1)) : Int).toNat : List ByteArray)).bind fun y144 => (head_Parse.l0 k bt138.1 bt138.2 t142 y144 (y144.length : Int) 0 (⟨#[]⟩ : ByteArray) (decide (t142 < 0)))) else (none)) else (none)))))) = some (r1, r2, r3, r4) := h
 clear h
 by_cases c2 : (a0.size : Int) > 8192
 ·rw [if_pos c2] at H
  have c2b0 : decide (8192 < (a0.size : Int)) = true := decide_eq_true c2
  have c2b1 : decide (8192 < a0.size) = true := decide_eq_true (by omega)
  clear c2
  simp only [Option.some.injEq, Prod.mk.injEq] at H
  obtain ⟨rfl, rfl, rfl, rfl⟩ := H
  go_enter Tryd.func9, Tryd.ntmps9
  go_wp2_with (first | ((with_reducible refine gate_dst (N := 2) rfl ?_); (try (refine gate_guard (by rfl) ?_; dsimp only)); refine box_event ?hg (N := 2) ?hd (cs := #[.slice none 0 0, .string (⟨#[]⟩ : ByteArray), .bool false]) (t := 24) ?hr ?_; (case hd => rfl); (case hg => rfl); (case hr => first | (go_simp; done) | (go_simp; rfl)); intro gb137 hg w3 hbox hb; have n0_ := Aside0.mk (below_step bl hb); have n1_ := Aside0.mk (hbox); have n2_ := Aside0.mk ((by rw [hg]; exact (below_size bl) : w.heap.size ≤ gb137)); have n3_ := Aside0.mk ((by rw [hg]; exact (below_size bl) : w.heap.size ≤ gb137)); clear HB; have HB := n0_; have BK137 := n1_; have GW137 := n2_; have GE137 := n3_; clear n0_ n1_ n2_ n3_; clear hb hbox hg; have hcz4_0 : w3.cell? ⟨gb137, 0, none⟩ = some (.slice none 0 0) := (blk_cell BK137.out 0).trans rfl; have hcz4_1 : w3.cell? ⟨gb137, 1, none⟩ = some (.string (⟨#[]⟩ : ByteArray)) := (blk_cell BK137.out 1).trans rfl; have hcz4_2 : w3.cell? ⟨gb137, 2, none⟩ = some (.bool false) := (blk_cell BK137.out 2).trans rfl; have hfz4_0 := blk_frozen BK137.out 0; have hfz4_1 := blk_frozen BK137.out 1; have hfz4_2 := blk_frozen BK137.out 2) | ((with_reducible refine gate_store (t := 24) (p := 2) rfl ?_); refine store_event (t := 24) (p := 2) (v := ?vo_w5) (w1 := (((w3.setCell ⟨gb137, 0, none⟩ (.slice none 0 0)).setCell ⟨gb137, 1, none⟩ (.string (⟨#[]⟩ : ByteArray))).setCell ⟨gb137, 2, none⟩ (.bool false))) ?hg ?ho ?hn ?hr ?_; (case ho => rfl); (case hg => rfl); (case hn => rfl); (case hr => first | (go_simp; done) | (go_simp; rfl)); intro w5 hw; have n0_ : Aside0 (w5.heap[gb137]? = some (.cells #[.slice none 0 0, .string (⟨#[]⟩ : ByteArray), .bool false] 24 (0, 0))) := ⟨(by rw [hw]; exact (by (with_reducible repeat (first | refine blk_drewN ?_ _ | refine blk_drew ?_ | refine blk_alloc ?_ _)); refine blk_put (cs := #[.slice none 0 0, .string (⟨#[]⟩ : ByteArray), .bool false]) ?_ 2 _ rfl; (with_reducible repeat (first | refine blk_drewN ?_ _ | refine blk_drew ?_ | refine blk_alloc ?_ _)); refine blk_put (cs := #[.slice none 0 0, .string (⟨#[]⟩ : ByteArray), .bool false]) ?_ 1 _ rfl; (with_reducible repeat (first | refine blk_drewN ?_ _ | refine blk_drew ?_ | refine blk_alloc ?_ _)); refine blk_put (cs := #[.slice none 0 0, .string (⟨#[]⟩ : ByteArray), .bool false]) ?_ 0 _ rfl; (with_reducible repeat (first | refine blk_drewN ?_ _ | refine blk_drew ?_ | refine blk_alloc ?_ _)); exact BK137.out))⟩; have n1_ : Aside0 (Below w.heap.size w w5) := ⟨(by rw [hw]; exact bl)⟩; clear hw; clear BK137; clear HB; have BK137 := n0_; have HB := n1_; clear n0_ n1_))
  refine bodyPost_ret (results_ct rfl _ _ gb137 24 #[.slice none 0 0, .string (⟨#[]⟩ : ByteArray), .bool false] (0, 0) _ rfl (bk BK137.out) Tryd.underlying24 rfl (by kernel_rfl)) rfl ?_
  exact ⟨_, by first | rfl | (simp [errW_none, errW_some] <;> rfl) | (simp [*, errW_none, errW_some] <;> rfl), by first | exact Kd.R_nil _ _ _ _ _ | exact Kd.N_nil _ _ _ _ _ | exact Kd.V_nil _ _ _ _ _ | exact Kd.Q_nil _ _ _ _ _ | exact Kd.S_nil _ _ _ _ _, by repeat (first | (with_reducible first | exact HB.out | apply below_alloc | apply pw_below_drewN | apply below_drew1 | refine below_set ?_ GE137.out) | exact HB.out)⟩
 ·rw [if_neg c2] at H
  have c2b0 : decide (8192 < (a0.size : Int)) = false := decide_eq_false c2
  have c2b1 : decide (8192 < a0.size) = false := decide_eq_false (by omega)
  clear c2
  replace H := Option.bind_eq_some_iff.mp H
  obtain ⟨⟨t138, t139⟩, A60, H⟩ := H
  replace H : ((slices_Index_string_string.f t138 (⟨#[]⟩ : ByteArray)).bind fun t142 => (if t142 < 0 then (head_Parse.j1 k t138 t139 (⟨#[]⟩ : ByteArray) (decide (t142 < 0))) else (if 0 ≤ (wrap64 (t142 + 1)) then (if (wrap64 (t142 + 1)) ≤ (t138.length : Int) then ((some (t138.drop ((wrap64 (t142 + 1)) : Int).toNat : List ByteArray)).bind fun y144 => (head_Parse.l0 k t138 t139 t142 y144 (y144.length : Int) 0 (⟨#[]⟩ : ByteArray) (decide (t142 < 0)))) else (none)) else (none)))) = some (r1, r2, r3, r4) := H
  have A6 := Aside0.mk A60
  clear A60
  replace H := Option.bind_eq_some_iff.mp H
  obtain ⟨t142, A70, H⟩ := H
  replace H : (if t142 < 0 then (head_Parse.j1 k t138 t139 (⟨#[]⟩ : ByteArray) (decide (t142 < 0))) else (if 0 ≤ (wrap64 (t142 + 1)) then (if (wrap64 (t142 + 1)) ≤ (t138.length : Int) then ((some (t138.drop ((wrap64 (t142 + 1)) : Int).toNat : List ByteArray)).bind fun y144 => (head_Parse.l0 k t138 t139 t142 y144 (y144.length : Int) 0 (⟨#[]⟩ : ByteArray) (decide (t142 < 0)))) else (none)) else (none))) = some (r1, r2, r3, r4) := H
  have A7 := Aside0.mk A70
  clear A70
  have HC8 := Aside0.mk H
  clear H
  go_enter Tryd.func9, Tryd.ntmps9
  go_upto_if 28 with (first | ((with_reducible refine gate_dst (N := 2) rfl ?_); (try (refine gate_guard (by rfl) ?_; dsimp only)); refine box_event ?hg (N := 2) ?hd (cs := #[.slice none 0 0, .string (⟨#[]⟩ : ByteArray), .bool false]) (t := 24) ?hr ?_; (case hd => rfl); (case hg => rfl); (case hr => first | (go_simp; done) | (go_simp; rfl)); intro gb137 hg w9 hbox hb; have n0_ := Aside0.mk (below_step bl hb); have n1_ := Aside0.mk (hbox); have n2_ := Aside0.mk ((by rw [hg]; exact (below_size bl) : w.heap.size ≤ gb137)); have n3_ := Aside0.mk ((by rw [hg]; exact (below_size bl) : w.heap.size ≤ gb137)); clear HB; have HB := n0_; have BK137 := n1_; have GW137 := n2_; have GE137 := n3_; clear n0_ n1_ n2_ n3_; clear hb hbox hg) | ((with_reducible refine gate_callee (f := 39) rfl ?_); refine goesL_ (some 18) rfl rfl Tryd.func39 (by kernel_rfl) rfl #[.string a0] rfl ml ?_; (with_reducible refine (head_lines.calls k a0 t138 t139 _ ?side1 A6.out).mono ?_); (case side1 => exact Glob.below HG.out bl); rintro e w10 ⟨v140, rfl, ho0, hb⟩; refine ⟨_, rfl, ?_⟩; have n0_ := Aside0.mk (Kd.R_lower ho0 (below_size bl)); have n1_ := Aside0.mk (kb BK137.out hb); have n2_ := Aside0.mk (below_step bl hb); clear BK137; clear HB; have HO141 := n0_; have BK137 := n1_; have HB := n2_; clear n0_ n1_ n2_; (try clear hb); (try clear hb2); (try clear hk); (try clear hi); (try clear ho0); obtain ⟨Ao11, co11, eo11⟩ := Kd.R_slice HO141.out; subst eo11) | ((with_reducible refine gate_callee (f := 40) rfl ?_); refine goesL_ (some 22) rfl rfl Tryd.func40 (by kernel_rfl) rfl #[.slice Ao11 t138.length co11, .string (⟨#[]⟩ : ByteArray)] rfl ml ?_; (with_reducible refine (slices_Index_string_string.calls _ _ t138 (⟨#[]⟩ : ByteArray) t142 _ ?side1 ?side2 A7.out).mono ?_); (case side1 => repeat (first | exact (Kd.R_reads' HO141.out).2.2 | (with_reducible refine Kd.C_alloc ?_ _) | (with_reducible refine Kd.C_drewN ?_ _) | (with_reducible refine Kd.C_drew ?_))); (case side2 => exact (Kd.R_reads' HO141.out).2.1); rintro e w' ⟨rfl, ⟨nd, rfl⟩⟩; refine ⟨_, rfl, ?_⟩; (try (rw [drewN_self w10]; generalize hq_ : World.drewN w10 _ = w10; have n0_ : Aside0 (Kd.R Kd.string 9 w10 w.heap.size (fun _ => True) (.slice Ao11 t138.length co11) t138) := ⟨by rw [← hq_]; exact (kr HO141.out)⟩; have n1_ : Aside0 (w10.heap[gb137]? = some (.cells #[.slice none 0 0, .string (⟨#[]⟩ : ByteArray), .bool false] 24 (0, 0))) := ⟨by rw [← hq_]; exact (bk BK137.out)⟩; have n2_ : Aside0 (Below w.heap.size w w10) := ⟨by rw [← hq_]; exact bl⟩; clear HO141 BK137 HB hq_; have HO141 := n0_; have BK137 := n1_; have HB := n2_; clear n0_ n1_ n2_))) | ((with_reducible refine gate_dst (N := 7) rfl ?_); (try (refine gate_guard (by rfl) ?_; dsimp only)); refine box_event ?hg (N := 7) ?hd (cs := #[.slice none 0 0, .string (⟨#[]⟩ : ByteArray), .bool false]) (t := 24) ?hr ?_; (case hd => rfl); (case hg => rfl); (case hr => first | (go_simp; done) | (go_simp; rfl)); intro gb143 hg w12 hbox hb; have n0_ := Aside0.mk (Kd.R_below (kr HO141.out) hb); have n1_ := Aside0.mk (kb BK137.out hb); have n2_ := Aside0.mk (below_step bl hb); have n3_ := Aside0.mk (hbox); have n4_ := Aside0.mk ((by rw [hg]; exact (below_size bl) : w.heap.size ≤ gb143)); have n5_ := Aside0.mk ((by rw [hg]; exact (below_size bl) : w.heap.size ≤ gb143)); have n6_ := Aside0.mk ((by rw [hg]; exact Nat.ne_of_lt (blk_lt (bk BK137.out)) : gb137 ≠ gb143)); have n7_ := Aside0.mk ((by rw [hg]; exact Nat.ne_of_gt (blk_lt (bk BK137.out)) : gb143 ≠ gb137)); clear HO141; clear BK137; clear HB; have HO141 := n0_; have BK137 := n1_; have HB := n2_; have BK143 := n3_; have GW143 := n4_; have GE143 := n5_; have NB137_143 := n6_; have NB143_137 := n7_; clear n0_ n1_ n2_ n3_ n4_ n5_ n6_ n7_; clear hb hbox hg; have hnb13 := NB143_137.out; have hnc13 := NB137_143.out; have hcz14_0 : w12.cell? ⟨gb143, 0, none⟩ = some (.slice none 0 0) := (blk_cell BK143.out 0).trans rfl; have hcz14_1 : w12.cell? ⟨gb143, 1, none⟩ = some (.string (⟨#[]⟩ : ByteArray)) := (blk_cell BK143.out 1).trans rfl; have hcz14_2 : w12.cell? ⟨gb143, 2, none⟩ = some (.bool false) := (blk_cell BK143.out 2).trans rfl; have hfz14_0 := blk_frozen BK143.out 0; have hfz14_1 := blk_frozen BK143.out 1; have hfz14_2 := blk_frozen BK143.out 2) | ((with_reducible refine gate_store (t := 24) (p := 7) rfl ?_); refine store_event (t := 24) (p := 7) (v := ?vo_w15) (w1 := (((w12.setCell ⟨gb143, 0, none⟩ (.slice none 0 0)).setCell ⟨gb143, 1, none⟩ (.string (⟨#[]⟩ : ByteArray))).setCell ⟨gb143, 2, none⟩ (.bool (decide (t142 < 0))))) ?hg ?ho ?hn ?hr ?_; (case ho => rfl); (case hg => rfl); (case hn => rfl); (case hr => first | (go_simp; done) | (go_simp; rfl)); intro w15 hw; have n0_ : Aside0 (Kd.R Kd.string 9 w15 w.heap.size (fun _ => True) (.slice Ao11 t138.length co11) t138) := ⟨(by rw [hw]; exact (by (with_reducible repeat (first | apply Kd.R_alloc | apply Kd.R_drewN | apply Kd.R_drew)); exact Kd.R_mono (Kd.R_far (p := ⟨gb143, 2, none⟩) (Kd.R_far (p := ⟨gb143, 1, none⟩) (Kd.R_far (p := ⟨gb143, 0, none⟩) (Kd.R_types HO141.out BK143.out (by decide)) (fun _ hk => hk.2) (.slice none 0 0)) (fun _ hk => hk.2) (.string (⟨#[]⟩ : ByteArray))) (fun _ hk => hk.2) (.bool (decide (t142 < 0)))) (fun _ hk => trivial)))⟩; have n1_ : Aside0 (w15.heap[gb137]? = some (.cells #[.slice none 0 0, .string (⟨#[]⟩ : ByteArray), .bool false] 24 (0, 0))) := ⟨(by rw [hw]; exact (bk BK137.out))⟩; have n2_ : Aside0 (w15.heap[gb143]? = some (.cells #[.slice none 0 0, .string (⟨#[]⟩ : ByteArray), .bool (decide (t142 < 0))] 24 (0, 0))) := ⟨(by rw [hw]; exact (by (with_reducible repeat (first | refine blk_drewN ?_ _ | refine blk_drew ?_ | refine blk_alloc ?_ _)); refine blk_put (cs := #[.slice none 0 0, .string (⟨#[]⟩ : ByteArray), .bool false]) ?_ 2 _ rfl; (with_reducible repeat (first | refine blk_drewN ?_ _ | refine blk_drew ?_ | refine blk_alloc ?_ _)); refine blk_put (cs := #[.slice none 0 0, .string (⟨#[]⟩ : ByteArray), .bool false]) ?_ 1 _ rfl; (with_reducible repeat (first | refine blk_drewN ?_ _ | refine blk_drew ?_ | refine blk_alloc ?_ _)); refine blk_put (cs := #[.slice none 0 0, .string (⟨#[]⟩ : ByteArray), .bool false]) ?_ 0 _ rfl; (with_reducible repeat (first | refine blk_drewN ?_ _ | refine blk_drew ?_ | refine blk_alloc ?_ _)); exact BK143.out))⟩; have n3_ : Aside0 (Below w.heap.size w w15) := ⟨(by rw [hw]; exact bl)⟩; clear hw; clear HO141; clear BK137; clear BK143; clear HB; have HO141 := n0_; have BK137 := n1_; have BK143 := n2_; have HB := n3_; clear n0_ n1_ n2_ n3_; have hcz16_0 : w15.cell? ⟨gb143, 0, none⟩ = some (.slice none 0 0) := (blk_cell BK143.out 0).trans rfl; have hcz16_1 : w15.cell? ⟨gb143, 1, none⟩ = some (.string (⟨#[]⟩ : ByteArray)) := (blk_cell BK143.out 1).trans rfl; have hcz16_2 : w15.cell? ⟨gb143, 2, none⟩ = some (.bool (decide (t142 < 0))) := (blk_cell BK143.out 2).trans rfl; have hfz16_0 := blk_frozen BK143.out 0; have hfz16_1 := blk_frozen BK143.out 1; have hfz16_2 := blk_frozen BK143.out 2))
  (try simp only [Act.put, List.setIfInBounds_toArray, List.set_cons_zero, List.set_cons_succ])
  go_cut [4] (fun v4 wc => ∃ (kq : Nat) (x4_7 : List ByteArray) (x144001_7 : ByteArray), Aside0 (head_Parse.j1 kq x4_7 t139 x144001_7 (decide (t142 < 0)) = some (r1, r2, r3, r4)) ∧ Aside0 (kq ≤ k) ∧ Aside0 (Kd.Q Kd.string 9 wc w.heap.size (fun _ => True) v4 x4_7) ∧ Aside0 (wc.heap[gb137]? = some (.cells #[(.slice none 0 0), .string (⟨#[]⟩ : ByteArray), .bool false] 24 (0, 0))) ∧ Aside0 (wc.heap[gb143]? = some (.cells #[(.slice none 0 0), .string x144001_7, .bool (decide (t142 < 0))] 24 (0, 0))) ∧ Aside0 (Below w.heap.size w wc))
  case first =>
   have H := HC8.out
   clear HC8
   by_cases c17 : t142 < 0
   ·rw [if_pos c17] at H
    have c17b0 : decide (t142 < 0) = true := decide_eq_true c17
    clear c17
    (first | rw [c17b0] | (simp only [i64_w, i32_w]; rw [c17b0]) | skip)
    have H' := Aside0.mk H
    clear H
    go_wp2
    go_meet
    case rel => exact ⟨_, (t138), ((⟨#[]⟩ : ByteArray)), H', ⟨by first | omega | exact Nat.le_refl _⟩, ⟨Kd.Q_of_R (kr HO141.out)⟩, ⟨by (with_reducible repeat (first | refine blk_drewN ?_ _ | refine blk_drew ?_ | refine blk_alloc ?_ _)); exact BK137.out⟩, ⟨by (with_reducible repeat (first | refine blk_drewN ?_ _ | refine blk_drew ?_ | refine blk_alloc ?_ _)); exact BK143.out⟩, ⟨by repeat (first | (with_reducible first | exact HB.out | apply below_alloc | apply pw_below_drewN | apply below_drew1 | refine below_set ?_ GE137.out | refine below_set ?_ GE143.out) | exact HB.out)⟩⟩
   ·rw [if_neg c17] at H
    have c17b0 : decide (t142 < 0) = false := decide_eq_false c17
    clear c17
    (first | rw [c17b0] | (simp only [i64_w, i32_w]; rw [c17b0]) | skip)
    obtain ⟨ji18, hji18⟩ : ∃ j_ : Int, (wrap64 (t142 + 1)) = j_ := ⟨_, rfl⟩
    replace H : (if 0 ≤ (ji18) then (if (ji18) ≤ (t138.length : Int) then ((some (t138.drop ((ji18) : Int).toNat : List ByteArray)).bind fun y144 => (head_Parse.l0 k t138 t139 t142 y144 (y144.length : Int) 0 (⟨#[]⟩ : ByteArray) (decide (t142 < 0)))) else (none)) else (none)) = some (r1, r2, r3, r4) := by first | (rw [hji18] at H; exact H) | (simp only [hji18] at H ⊢; exact H)
    have hji18w : (IntKind.i64.wrap (t142 + 1)) = ji18 := (i64_w _).trans hji18
    by_cases c19 : 0 ≤ (ji18)
    ·rw [if_pos c19] at H
     have c19b0 := eq_true c19
     have c19b1 : decide (0 ≤ (ji18)) = true := decide_eq_true c19
     clear c19
     by_cases c20 : (ji18) ≤ (t138.length : Int)
     ·rw [if_pos c20] at H
      have c20b0 := eq_true c20
      have c20b1 : decide ((ji18) ≤ (t138.length : Int)) = true := decide_eq_true c20
      clear c20
      obtain ⟨y144, hy144⟩ : ∃ y_ : List ByteArray, y_ = (t138.drop ((ji18) : Int).toNat) := ⟨_, rfl⟩
      replace H : (head_Parse.l0 k t138 t139 t142 y144 (y144.length : Int) 0 (⟨#[]⟩ : ByteArray) (decide (t142 < 0))) = some (r1, r2, r3, r4) := by first | (rw [hy144]; with_reducible exact H) | (have H2_ := (Option.bind_some _ _).symm.trans H; rw [hy144]; with_reducible exact H2_) | (have H2_ := (Option.bind_some _ _).symm.trans H; with_reducible exact H2_) | with_reducible exact H | (rw [hy144]; exact H) | exact H
      have Ny144 := Aside0.mk hy144
      clear hy144
      have H' := Aside0.mk H
      clear H
      have q21 : ((ji18) : Int) ≤ ((t138.length : Int) : Int) := od
      obtain ⟨i021, hi021, _, hsz21, _⟩ := info_parts info9
      have hroom21 : t138.length ≤ co11 := (Kd.R_reads' HO141.out).2.1
      have hC21 : Kd.F Kd.string _ _ Ao11 t138.length t138 := (Kd.V_at (base := w.heap.size) (Kd.R_V (Kd.R_types (Kd.R_types (HO141.out) BK137.out (by decide)) BK143.out (by decide)))).2.2
      have q021 : (0 : Int) ≤ ((ji18) : Int) := od
      have hcut21 := cut_from (P := Tryd.prog) 37 9 .i64 Tryd.underlying37 hi021 1 hsz21 Ao11 t138.length co11 (ji18) q021 q21
      have hr21 := Kd.F_cut (m := ((ji18) : Int).toNat) (c := co11) hC21 (by omega) hroom21
      obtain ⟨A21, hA21⟩ : ∃ A1, A1 = (if co11 = ((ji18) : Int).toNat then Ao11 else (Ao11 : Option Addr).map (·.add (((ji18) : Int).toNat * 1))) := ⟨_, rfl⟩
      obtain ⟨c21, hc21⟩ : ∃ c1, c1 = co11 - ((ji18) : Int).toNat := ⟨_, rfl⟩
      have hy21 : y144.length = t138.length - ((ji18) : Int).toNat := (by rw [Ny144.out, List.length_drop] <;> omega)
      rw [show (t138).drop ((ji18) : Int).toNat = y144 from Ny144.out.symm] at hr21
      replace hr21 : Kd.F Kd.string _ _ A21 y144.length y144 := (by rw [hA21]; exact hr21)
      rw [← hy21, ← hA21, ← hc21] at hcut21
      have HO148 := Aside0.mk (show Kd.V Kd.string 9 _ w.heap.size _ (.slice A21 y144.length c21) y144 from Kd.V_mk (by rw [hy21, hc21]; exact Nat.sub_le_sub_right hroom21 _) hr21)
      have HC148 := Aside0.mk (show y144.length ≤ c21 from by rw [hy21, hc21]; exact Nat.sub_le_sub_right hroom21 _)
      clear hr21 hC21 hroom21 hi021 hsz21 hc21
      have KY21 := Aside0.mk hy21
      have KA21 := Aside0.mk hA21
      clear hy21 hA21
      replace q21 := eq_true q21
      go_wp2
      go_loopg [34] k (fun kq v34 w' => ∃ (x34_1 : Int) (x144001_1 : ByteArray), v34 = .int .i64 x34_1 ∧ Aside0 (head_Parse.l0 kq t138 t139 t142 y144 (y144.length : Int) x34_1 x144001_1 (decide (t142 < 0)) = some (r1, r2, r3, r4)) ∧ Aside0 (kq ≤ k) ∧ Aside0 (Kd.Q Kd.string 9 w' w.heap.size (fun _ => True) (.slice Ao11 t138.length co11) t138) ∧ Aside0 (Kd.V Kd.string 9 w' w.heap.size (fun k_ => k_ ≠ gb137 ∧ k_ ≠ gb143) (.slice A21 y144.length c21) y144) ∧ Aside0 (w'.heap[gb137]? = some (.cells #[(.slice none 0 0), .string (⟨#[]⟩ : ByteArray), .bool false] 24 (0, 0))) ∧ Aside0 (w'.heap[gb143]? = some (.cells #[(.slice none 0 0), .string x144001_1, .bool (decide (t142 < 0))] 24 (0, 0))) ∧ Aside0 (Below w.heap.size w w'))
      case atStart => exact ⟨(0), ((⟨#[]⟩ : ByteArray)), (by first | rfl | (simp; done) | (simp [*]; done)), H', ⟨Nat.le_refl _⟩, ⟨Kd.Q_of_R (kr HO141.out)⟩, ⟨by (with_reducible repeat (first | apply Kd.V_alloc | apply Kd.V_drewN | apply Kd.V_drew)); exact Kd.V_mono HO148.out (fun _ hk => ⟨hk.1.2, hk.2⟩)⟩, ⟨by (with_reducible repeat (first | refine blk_drewN ?_ _ | refine blk_drew ?_ | refine blk_alloc ?_ _)); exact BK137.out⟩, ⟨by (with_reducible repeat (first | refine blk_drewN ?_ _ | refine blk_drew ?_ | refine blk_alloc ?_ _)); exact BK143.out⟩, ⟨by repeat (first | (with_reducible first | exact HB.out | apply below_alloc | apply pw_below_drewN | apply below_drew1 | refine below_set ?_ GE137.out | refine below_set ?_ GE143.out) | exact HB.out)⟩⟩
      case round =>
       clear H'
       try clear c1
       try clear c2
       try clear c2b0
       try clear c2b1
       try clear p2
       try clear q2
       try clear c3
       try clear c4
       try clear p6
       try clear c9
       try clear c13
       try clear c17
       try clear c17b0
       try clear c19
       try clear c19b0
       try clear c19b1
       try clear c20
       try clear c20b0
       try clear c20b1
       try clear c21
       try clear q21
       try clear hcz14_0
       try clear hcz14_1
       try clear hcz14_2
       try clear hcz16_0
       try clear hcz16_1
       try clear hcz16_2
       try clear hcz4_0
       try clear hcz4_1
       try clear hcz4_2
       try clear hfz14_0
       try clear hfz14_1
       try clear hfz14_2
       try clear hfz16_0
       try clear hfz16_1
       try clear hfz16_2
       try clear hfz4_0
       try clear hfz4_1
       try clear hfz4_2
       try clear q021
       try clear q21
       obtain ⟨x34_1, x144001_1, rfl, HA, HK1, HO_4, HO_32, BK137, BK143, HB⟩ := hrel
       cases gk with
       | zero => exact absurd HA.out (by simp [head_Parse.l0])
       | succ k1 =>
        have H := HA.out
        clear HA
        simp only [head_Parse.l0] at H
        by_cases c22 : x34_1 < (y144.length : Int)
        ·rw [if_pos c22] at H
         have c22b0 : decide (x34_1 < (y144.length : Int)) = true := decide_eq_true c22
         clear c22
         by_cases c23 : 0 ≤ x34_1
         ·rw [if_pos c23] at H
          have c23b0 : decide (0 ≤ x34_1) = true := decide_eq_true c23
          clear c23
          by_cases c24 : x34_1 < (y144.length : Int)
          ·rw [if_pos c24] at H
           have c24b0 : decide (x34_1 < (y144.length : Int)) = true := decide_eq_true c24
           clear c24
           by_cases c25 : (rdOf ByteArray.empty y144 x34_1).size + 2 ≤ 9223372036854775807
           ·rw [if_pos c25] at H
            have c25b0 := eq_true c25
            have c25b1 : decide ((rdOf ByteArray.empty y144 x34_1).size + 2 ≤ 9223372036854775807) = true := decide_eq_true c25
            try have c25b2 : (9223372036854775807 < (rdOf ByteArray.empty y144 x34_1).size + 2) = False := eq_false (Nat.not_lt.2 c25)
            by_cases c26 : x144001_1.size + ((rdOf ByteArray.empty y144 x34_1) ++ (⟨#[13, 10]⟩ : ByteArray)).size ≤ 9223372036854775807
            ·rw [if_pos c26] at H
             have c26b0 := eq_true c26
             have c26b1 : decide (x144001_1.size + ((rdOf ByteArray.empty y144 x34_1) ++ (⟨#[13, 10]⟩ : ByteArray)).size ≤ 9223372036854775807) = true := decide_eq_true c26
             try have c26b2 : (9223372036854775807 < x144001_1.size + ((rdOf ByteArray.empty y144 x34_1) ++ (⟨#[13, 10]⟩ : ByteArray)).size) = False := eq_false (Nat.not_lt.2 c26)
             try (have c26b2y := c26b2; rw [ByteArray.size_append] at c26b2y)
             try have c26b2z : (9223372036854775807 < x144001_1.size + ((rdOf ByteArray.empty y144 x34_1).size + 2)) = False := eq_false (fun h_ => by have g_ := c26; simp only [ByteArray.size_append, show (⟨#[13, 10]⟩ : ByteArray).size = 2 from rfl] at g_; omega)
             have H' := Aside0.mk H
             clear H
             have p149 : 0 ≤ (x34_1 : Int) := od
             have q149 : x34_1 < (y144.length : Int) := od
             obtain ⟨ad149, e149, hx149_0⟩ := Kd.at_string (Kd.V_reads' HO_32.out).2.2 x34_1 p149 q149
             cases e149
             replace p149 := eq_true p149
             replace q149 := eq_true q149
             have hnb27 := NB143_137.out
             have hnc27 := NB137_143.out
             have hcz28_0 : wr.cell? ⟨gb143, 0, none⟩ = some (.slice none 0 0) := (blk_cell BK143.out 0).trans rfl
             have hcz28_1 : wr.cell? ⟨gb143, 1, none⟩ = some (.string x144001_1) := (blk_cell BK143.out 1).trans rfl
             have hcz28_2 : wr.cell? ⟨gb143, 2, none⟩ = some (.bool (decide (t142 < 0))) := (blk_cell BK143.out 2).trans rfl
             have hfz28_0 := blk_frozen BK143.out 0
             have hfz28_1 := blk_frozen BK143.out 1
             have hfz28_2 := blk_frozen BK143.out 2
             go_wp2_with (first | ((with_reducible refine gate_store (t := 9) (p := 43) rfl ?_); refine store_event (t := 9) (p := 43) (v := ?vo_w29) (w1 := (wr.setCell ⟨gb143, 1, none⟩ (.string (x144001_1 ++ ((rdOf ByteArray.empty y144 x34_1) ++ (⟨#[13, 10]⟩ : ByteArray)))))) ?hg ?ho ?hn ?hr ?_; (case ho => rfl); (case hg => rfl); (case hn => rfl); (case hr => first | (go_simp; done) | (go_simp; rfl)); intro w29 hw; have n0_ : Aside0 (Kd.Q Kd.string 9 w29 w.heap.size (fun _ => True) (.slice Ao11 t138.length co11) t138) := ⟨(by rw [hw]; exact (by (with_reducible repeat (first | apply Kd.Q_alloc | apply Kd.Q_drewN | apply Kd.Q_drew)); exact Kd.Q_mono (Kd.Q_far (p := ⟨gb143, 1, none⟩) (Kd.Q_types HO_4.out BK143.out (by decide)) (fun _ hk => hk.2) (.string (x144001_1 ++ ((rdOf ByteArray.empty y144 x34_1) ++ (⟨#[13, 10]⟩ : ByteArray))))) (fun _ hk => trivial)))⟩; have n1_ : Aside0 (Kd.V Kd.string 9 w29 w.heap.size (fun k_ => k_ ≠ gb137 ∧ k_ ≠ gb143) (.slice (some ad149) y144.length c21) y144) := ⟨(by rw [hw]; exact (by (with_reducible repeat (first | apply Kd.V_alloc | apply Kd.V_drewN | apply Kd.V_drew)); exact Kd.V_mono (Kd.V_far (p := ⟨gb143, 1, none⟩) (Kd.V_mono HO_32.out (fun k_ hk => (⟨hk, hk.2⟩ : _ ∧ k_ ≠ gb143))) (fun _ hk => hk.2) (.string (x144001_1 ++ ((rdOf ByteArray.empty y144 x34_1) ++ (⟨#[13, 10]⟩ : ByteArray))))) (fun _ hk => ⟨hk.1.1, hk.1.2⟩)))⟩; have n2_ : Aside0 (w29.heap[gb137]? = some (.cells #[.slice none 0 0, .string (⟨#[]⟩ : ByteArray), .bool false] 24 (0, 0))) := ⟨(by rw [hw]; exact (bk BK137.out))⟩; have n3_ : Aside0 (w29.heap[gb143]? = some (.cells #[.slice none 0 0, .string (x144001_1 ++ ((rdOf ByteArray.empty y144 x34_1) ++ (⟨#[13, 10]⟩ : ByteArray))), .bool (decide (t142 < 0))] 24 (0, 0))) := ⟨(by rw [hw]; exact (by (with_reducible repeat (first | refine blk_drewN ?_ _ | refine blk_drew ?_ | refine blk_alloc ?_ _)); refine blk_put (cs := #[.slice none 0 0, .string x144001_1, .bool (decide (t142 < 0))]) ?_ 1 _ rfl; (with_reducible repeat (first | refine blk_drewN ?_ _ | refine blk_drew ?_ | refine blk_alloc ?_ _)); exact BK143.out))⟩; have n4_ : Aside0 (Below w.heap.size w w29) := ⟨(by rw [hw]; exact bl)⟩; clear hw; clear HO_4; clear HO_32; clear BK137; clear BK143; clear HB; have HO_4 := n0_; have HO_32 := n1_; have BK137 := n2_; have BK143 := n3_; have HB := n4_; clear n0_ n1_ n2_ n3_ n4_))
             go_roundg k1
             case measure => have := HK1.out; omega
             case rel => exact ⟨(wrap64 (x34_1 + 1)), (x144001_1 ++ ((rdOf ByteArray.empty y144 x34_1) ++ (⟨#[13, 10]⟩ : ByteArray))), (by first | rfl | (simp; done) | (simp [*]; done)), H', ⟨by have := HK1.out; omega⟩, ⟨by (with_reducible repeat (first | apply Kd.Q_alloc | apply Kd.Q_drewN | apply Kd.Q_drew)); exact HO_4.out⟩, ⟨by (with_reducible repeat (first | apply Kd.V_alloc | apply Kd.V_drewN | apply Kd.V_drew)); exact HO_32.out⟩, ⟨by (with_reducible repeat (first | refine blk_drewN ?_ _ | refine blk_drew ?_ | refine blk_alloc ?_ _)); exact BK137.out⟩, ⟨by (with_reducible repeat (first | refine blk_drewN ?_ _ | refine blk_drew ?_ | refine blk_alloc ?_ _)); exact BK143.out⟩, ⟨by repeat (first | (with_reducible first | exact HB.out | apply below_alloc | apply pw_below_drewN | apply below_drew1 | refine below_set ?_ GE137.out | refine below_set ?_ GE143.out) | exact HB.out)⟩⟩
            ·rw [if_neg c26] at H
             exact absurd H (by simp)
           ·rw [if_neg c25] at H
            exact absurd H (by simp)
          ·rw [if_neg c24] at H
           exact absurd H (by simp)
         ·rw [if_neg c23] at H
          exact absurd H (by simp)
        ·rw [if_neg c22] at H
         have c22b0 : decide (x34_1 < (y144.length : Int)) = false := decide_eq_false c22
         clear c22
         by_cases c30 : 0 ≤ t142
         ·rw [if_pos c30] at H
          have c30b0 := eq_true c30
          have c30b1 : decide (0 ≤ t142) = true := decide_eq_true c30
          clear c30
          by_cases c31 : t142 ≤ (t138.length : Int)
          ·rw [if_pos c31] at H
           have c31b0 := eq_true c31
           have c31b1 : decide (t142 ≤ (t138.length : Int)) = true := decide_eq_true c31
           clear c31
           obtain ⟨y150, hy150⟩ : ∃ y_ : List ByteArray, y_ = (t138.take (t142 : Int).toNat) := ⟨_, rfl⟩
           replace H : (head_Parse.j1 k1 y150 t139 x144001_1 (decide (t142 < 0))) = some (r1, r2, r3, r4) := by first | (rw [hy150]; with_reducible exact H) | (have H2_ := (Option.bind_some _ _).symm.trans H; rw [hy150]; with_reducible exact H2_) | (have H2_ := (Option.bind_some _ _).symm.trans H; with_reducible exact H2_) | with_reducible exact H | (rw [hy150]; exact H) | exact H
           have Ny150 := Aside0.mk hy150
           clear hy150
           have H' := Aside0.mk H
           clear H
           have q32 : (t142 : Int) ≤ ((t138.length : Int) : Int) := od
           obtain ⟨i032, hi032, _, hsz32, _⟩ := info_parts info9
           have hcut32 := cut_to (P := Tryd.prog) 37 9 .i64 Tryd.underlying37 hi032 Ao11 t138.length co11 t142 (od) q32 (Kd.Q_reads' HO_4.out).2.1
           have hr32 := Kd.Q_take (m := (t142 : Int).toNat) HO_4.out (by omega)
           have hy32 : y150.length = (t142 : Int).toNat := (by rw [Ny150.out, List.length_take]; omega)
           rw [← Ny150.out] at hr32
           rw [← hy32] at hr32 hcut32
           clear hy32 hi032 hsz32 HO_4
           have HO152 := Aside0.mk hr32
           clear hr32
           replace q32 := eq_true q32
           go_wp2
           go_meet
           case rel => exact ⟨_, (y150), (x144001_1), H', ⟨by have := HK1.out; first | omega | exact Nat.le_refl _⟩, ⟨by (with_reducible repeat (first | apply Kd.Q_alloc | apply Kd.Q_drewN | apply Kd.Q_drew)); exact HO152.out⟩, ⟨by (with_reducible repeat (first | refine blk_drewN ?_ _ | refine blk_drew ?_ | refine blk_alloc ?_ _)); exact BK137.out⟩, ⟨by (with_reducible repeat (first | refine blk_drewN ?_ _ | refine blk_drew ?_ | refine blk_alloc ?_ _)); exact BK143.out⟩, ⟨by repeat (first | (with_reducible first | exact HB.out | apply below_alloc | apply pw_below_drewN | apply below_drew1 | refine below_set ?_ GE137.out | refine below_set ?_ GE143.out) | exact HB.out)⟩⟩
          ·rw [if_neg c31] at H
           exact absurd H (by simp)
         ·rw [if_neg c30] at H
          exact absurd H (by simp)
     ·rw [if_neg c20] at H
      exact absurd H (by simp)
    ·rw [if_neg c19] at H
     exact absurd H (by simp)
  case rest =>
   clear HC8
   try clear c1
   try clear p1
   try clear q1
   try clear hx1
   try clear c2
   try clear c2b0
   try clear c2b1
   try clear p2
   try clear q2
   try clear c3
   try clear q3
   try clear c4
   try clear p6
   try clear c9
   try clear c13
   try clear p14
   try clear q14
   try clear hx14
   try clear c17
   try clear c17b0
   try clear c19
   try clear c19b0
   try clear c19b1
   try clear c20
   try clear c20b0
   try clear c20b1
   try clear c21
   try clear q21
   try clear c22
   try clear c22b0
   try clear c23
   try clear c23b0
   try clear c24
   try clear c24b0
   try clear c25
   try clear c25b0
   try clear c25b1
   try clear c25b2
   try clear c26
   try clear c26b0
   try clear c26b1
   try clear c26b2
   try clear c27
   try clear c30
   try clear c30b0
   try clear c30b1
   try clear c31
   try clear c31b0
   try clear c31b1
   try clear q32
   try clear hcz14_0
   try clear hcz14_1
   try clear hcz14_2
   try clear hcz16_0
   try clear hcz16_1
   try clear hcz16_2
   try clear hcz28_0
   try clear hcz28_1
   try clear hcz28_2
   try clear hcz4_0
   try clear hcz4_1
   try clear hcz4_2
   try clear hfz14_0
   try clear hfz14_1
   try clear hfz14_2
   try clear hfz16_0
   try clear hfz16_1
   try clear hfz16_2
   try clear hfz28_0
   try clear hfz28_1
   try clear hfz28_2
   try clear hfz4_0
   try clear hfz4_1
   try clear hfz4_2
   try clear hx149_0
   try clear p149
   try clear p2
   try clear p6
   try clear q021
   try clear q149
   try clear q2
   try clear q21
   try clear q32
   obtain ⟨kq, x4_7, x144001_7, HA, HJ7, HO_4, BK137, BK143, HB⟩ := hcut
   cases kq with
   | zero => exact absurd HA.out (by simp [head_Parse.j1])
   | succ kj7 =>
    have H := HA.out
    clear HA
    simp only [head_Parse.j1] at H
    have H' := Aside0.mk H
    clear H
    go_wp2
    go_loopg [4, 5] kj7 (fun kq v4 v5 w' => ∃ (x4_2 : List ByteArray) (x5_2 : Bool) (x144000_2 : List (S41)) (u144000 : Value), v5 = .bool x5_2 ∧ Aside0 (head_Parse.l1 kq x4_2 x5_2 x144000_2 x144001_7 (decide (t142 < 0)) = some (r1, r2, r3, r4)) ∧ Aside0 (kq ≤ kj7) ∧ Aside0 (Kd.Q Kd.string 9 w' w.heap.size (fun _ => True) v4 x4_2) ∧ Aside0 (Kd.R k41 41 w' w.heap.size (fun _ => True) u144000 x144000_2) ∧ Aside0 (w'.heap[gb137]? = some (.cells #[(.slice none 0 0), .string (⟨#[]⟩ : ByteArray), .bool false] 24 (0, 0))) ∧ Aside0 (w'.heap[gb143]? = some (.cells #[u144000, .string x144001_7, .bool (decide (t142 < 0))] 24 (0, 0))) ∧ Aside0 (Below w.heap.size w w'))
    case atStart => exact ⟨(x4_7), (t139), (([] : List (S41))), (.slice none 0 0), (by first | rfl | (simp; done) | (simp [*]; done)), H', ⟨Nat.le_refl _⟩, ⟨by (with_reducible repeat (first | apply Kd.Q_alloc | apply Kd.Q_drewN | apply Kd.Q_drew)); exact HO_4.out⟩, ⟨by first | exact Kd.R_nil _ _ _ _ _ | exact Kd.N_nil _ _ _ _ _ | exact Kd.V_nil _ _ _ _ _ | exact Kd.Q_nil _ _ _ _ _ | exact Kd.S_nil _ _ _ _ _⟩, ⟨by (with_reducible repeat (first | refine blk_drewN ?_ _ | refine blk_drew ?_ | refine blk_alloc ?_ _)); exact BK137.out⟩, ⟨by (with_reducible repeat (first | refine blk_drewN ?_ _ | refine blk_drew ?_ | refine blk_alloc ?_ _)); exact BK143.out⟩, ⟨by repeat (first | (with_reducible first | exact HB.out | apply below_alloc | apply pw_below_drewN | apply below_drew1 | refine below_set ?_ GE137.out | refine below_set ?_ GE143.out) | exact HB.out)⟩⟩
    case round =>
     clear H'
     try clear c1
     try clear p1
     try clear q1
     try clear hx1
     try clear c2
     try clear c2b0
     try clear c2b1
     try clear p2
     try clear q2
     try clear c3
     try clear q3
     try clear c4
     try clear p6
     try clear c9
     try clear c13
     try clear p14
     try clear q14
     try clear hx14
     try clear c17
     try clear c17b0
     try clear c19
     try clear c19b0
     try clear c19b1
     try clear c20
     try clear c20b0
     try clear c20b1
     try clear c21
     try clear q21
     try clear c22
     try clear c22b0
     try clear c23
     try clear c23b0
     try clear c24
     try clear c24b0
     try clear c25
     try clear c25b0
     try clear c25b1
     try clear c25b2
     try clear c26
     try clear c26b0
     try clear c26b1
     try clear c26b2
     try clear c27
     try clear c30
     try clear c30b0
     try clear c30b1
     try clear c31
     try clear c31b0
     try clear c31b1
     try clear q32
     try clear hcz14_0
     try clear hcz14_1
     try clear hcz14_2
     try clear hcz16_0
     try clear hcz16_1
     try clear hcz16_2
     try clear hcz28_0
     try clear hcz28_1
     try clear hcz28_2
     try clear hcz4_0
     try clear hcz4_1
     try clear hcz4_2
     try clear hfz14_0
     try clear hfz14_1
     try clear hfz14_2
     try clear hfz16_0
     try clear hfz16_1
     try clear hfz16_2
     try clear hfz28_0
     try clear hfz28_1
     try clear hfz28_2
     try clear hfz4_0
     try clear hfz4_1
     try clear hfz4_2
     try clear hx149_0
     try clear p1
     try clear p14
     try clear p149
     try clear p2
     try clear p6
     try clear q021
     try clear q1
     try clear q14
     try clear q149
     try clear q2
     try clear q21
     try clear q3
     try clear q32
     obtain ⟨x4_2, x5_2, x144000_2, u144000, rfl, HA, HK2, HO_4, HO_144000, BK137, BK143, HB⟩ := hrel
     cases gk with
     | zero => exact absurd HA.out (by simp [head_Parse.l1])
     | succ k2 =>
      have H := HA.out
      clear HA
      simp only [head_Parse.l1] at H
      have HC33 := Aside0.mk H
      clear H
      go_upto_region 13 with (fail)
      go_cut [53] (fun v53 wc => ∃ (kq : Nat) (x53_32 : Bool), v53 = .bool x53_32 ∧ Aside0 (head_Parse.j3 kq x4_2 x5_2 x53_32 x144000_2 x144001_7 (decide (t142 < 0)) = some (r1, r2, r3, r4)) ∧ Aside0 (kq ≤ k2) ∧ Aside0 (Kd.Q Kd.string 9 wc w.heap.size (fun _ => True) u4 x4_2) ∧ Aside0 (Kd.R k41 41 wc w.heap.size (fun _ => True) u144000 x144000_2) ∧ Aside0 (wc.heap[gb137]? = some (.cells #[(.slice none 0 0), .string (⟨#[]⟩ : ByteArray), .bool false] 24 (0, 0))) ∧ Aside0 (wc.heap[gb143]? = some (.cells #[u144000, .string x144001_7, .bool (decide (t142 < 0))] 24 (0, 0))) ∧ Aside0 (Below w.heap.size w wc))
      case first =>
       have H := HC33.out
       clear HC33
       by_cases c34 : x5_2 = true
       ·subst c34
        have H1 : (head_Parse.j3 k2 x4_2 true (decide ((x4_2.length : Int) > 0)) x144000_2 x144001_7 (decide (t142 < 0))) = some (r1, r2, r3, r4) := by rw [if_pos rfl] at H; exact H
        clear H
        have H := H1
        clear H1
        have H' := Aside0.mk H
        clear H
        obtain ⟨Ao35, co35, eo35, _⟩ := Kd.Q_slice HO_4.out
        subst eo35
        go_wp2
        go_meet
        case rel => exact ⟨_, (decide ((x4_2.length : Int) > 0)), (by first | rfl | (simp; done) | (simp [*]; done)), H', ⟨by have := HJ7.out; have := HK2.out; first | omega | exact Nat.le_refl _⟩, ⟨by (with_reducible repeat (first | apply Kd.Q_alloc | apply Kd.Q_drewN | apply Kd.Q_drew)); exact HO_4.out⟩, ⟨by (with_reducible repeat (first | apply Kd.R_alloc | apply Kd.R_drewN | apply Kd.R_drew)); exact HO_144000.out⟩, ⟨by (with_reducible repeat (first | refine blk_drewN ?_ _ | refine blk_drew ?_ | refine blk_alloc ?_ _)); exact BK137.out⟩, ⟨by (with_reducible repeat (first | refine blk_drewN ?_ _ | refine blk_drew ?_ | refine blk_alloc ?_ _)); exact BK143.out⟩, ⟨by repeat (first | (with_reducible first | exact HB.out | apply below_alloc | apply pw_below_drewN | apply below_drew1 | refine below_set ?_ GE137.out | refine below_set ?_ GE143.out) | exact HB.out)⟩⟩
       ·replace c34 := Bool.eq_false_iff.mpr c34
        subst c34
        have H1 : (head_Parse.j3 k2 x4_2 false false x144000_2 x144001_7 (decide (t142 < 0))) = some (r1, r2, r3, r4) := by rw [if_neg (show ¬ (false = true) by decide)] at H; exact H
        clear H
        have H := H1
        clear H1
        have H' := Aside0.mk H
        clear H
        go_wp2
        go_meet
        case rel => exact ⟨_, (false), (by first | rfl | (simp; done) | (simp [*]; done)), H', ⟨by have := HJ7.out; have := HK2.out; first | omega | exact Nat.le_refl _⟩, ⟨by (with_reducible repeat (first | apply Kd.Q_alloc | apply Kd.Q_drewN | apply Kd.Q_drew)); exact HO_4.out⟩, ⟨by (with_reducible repeat (first | apply Kd.R_alloc | apply Kd.R_drewN | apply Kd.R_drew)); exact HO_144000.out⟩, ⟨by (with_reducible repeat (first | refine blk_drewN ?_ _ | refine blk_drew ?_ | refine blk_alloc ?_ _)); exact BK137.out⟩, ⟨by (with_reducible repeat (first | refine blk_drewN ?_ _ | refine blk_drew ?_ | refine blk_alloc ?_ _)); exact BK143.out⟩, ⟨by repeat (first | (with_reducible first | exact HB.out | apply below_alloc | apply pw_below_drewN | apply below_drew1 | refine below_set ?_ GE137.out | refine below_set ?_ GE143.out) | exact HB.out)⟩⟩
      case rest =>
       clear HC33
       try clear c1
       try clear p1
       try clear q1
       try clear hx1
       try clear c2
       try clear c2b0
       try clear c2b1
       try clear p2
       try clear q2
       try clear c3
       try clear q3
       try clear c4
       try clear p6
       try clear c9
       try clear c13
       try clear p14
       try clear q14
       try clear hx14
       try clear c17
       try clear c17b0
       try clear c19
       try clear c19b0
       try clear c19b1
       try clear c20
       try clear c20b0
       try clear c20b1
       try clear c21
       try clear q21
       try clear c22
       try clear c22b0
       try clear c23
       try clear c23b0
       try clear c24
       try clear c24b0
       try clear c25
       try clear c25b0
       try clear c25b1
       try clear c25b2
       try clear c26
       try clear c26b0
       try clear c26b1
       try clear c26b2
       try clear c27
       try clear c30
       try clear c30b0
       try clear c30b1
       try clear c31
       try clear c31b0
       try clear c31b1
       try clear q32
       try clear c34
       try clear hcz14_0
       try clear hcz14_1
       try clear hcz14_2
       try clear hcz16_0
       try clear hcz16_1
       try clear hcz16_2
       try clear hcz28_0
       try clear hcz28_1
       try clear hcz28_2
       try clear hcz4_0
       try clear hcz4_1
       try clear hcz4_2
       try clear hfz14_0
       try clear hfz14_1
       try clear hfz14_2
       try clear hfz16_0
       try clear hfz16_1
       try clear hfz16_2
       try clear hfz28_0
       try clear hfz28_1
       try clear hfz28_2
       try clear hfz4_0
       try clear hfz4_1
       try clear hfz4_2
       try clear hx149_0
       try clear p1
       try clear p14
       try clear p149
       try clear p2
       try clear p6
       try clear q021
       try clear q1
       try clear q14
       try clear q149
       try clear q2
       try clear q21
       try clear q3
       try clear q32
       obtain ⟨kq, x53_32, rfl, HA, HJ32, HO_4, HO_144000, BK137, BK143, HB⟩ := hcut
       cases kq with
       | zero => exact absurd HA.out (by simp [head_Parse.j3])
       | succ kj32 =>
        have H := HA.out
        clear HA
        simp only [head_Parse.j3] at H
        by_cases c36 : x53_32 = true
        ·subst c36
         have H1 : (head_Parse.l2 kj32 x4_2 1 x144000_2 x144001_7 (decide (t142 < 0))) = some (r1, r2, r3, r4) := by rw [if_pos rfl] at H; exact H
         clear H
         have H := H1
         clear H1
         have H' := Aside0.mk H
         clear H
         go_wp2
         go_loopg [10] kj32 (fun kq v10 w' => ∃ (x10_4 : Int), v10 = .int .i64 x10_4 ∧ Aside0 (head_Parse.l2 kq x4_2 x10_4 x144000_2 x144001_7 (decide (t142 < 0)) = some (r1, r2, r3, r4)) ∧ Aside0 (kq ≤ kj32) ∧ Aside0 (Kd.Q Kd.string 9 w' w.heap.size (fun _ => True) u4 x4_2) ∧ Aside0 (Kd.R k41 41 w' w.heap.size (fun _ => True) u144000 x144000_2) ∧ Aside0 (w'.heap[gb137]? = some (.cells #[(.slice none 0 0), .string (⟨#[]⟩ : ByteArray), .bool false] 24 (0, 0))) ∧ Aside0 (w'.heap[gb143]? = some (.cells #[u144000, .string x144001_7, .bool (decide (t142 < 0))] 24 (0, 0))) ∧ Aside0 (Below w.heap.size w w'))
         case atStart => exact ⟨(1), (by first | rfl | (simp; done) | (simp [*]; done)), H', ⟨Nat.le_refl _⟩, ⟨by (with_reducible repeat (first | apply Kd.Q_alloc | apply Kd.Q_drewN | apply Kd.Q_drew)); exact HO_4.out⟩, ⟨by (with_reducible repeat (first | apply Kd.R_alloc | apply Kd.R_drewN | apply Kd.R_drew)); exact HO_144000.out⟩, ⟨by (with_reducible repeat (first | refine blk_drewN ?_ _ | refine blk_drew ?_ | refine blk_alloc ?_ _)); exact BK137.out⟩, ⟨by (with_reducible repeat (first | refine blk_drewN ?_ _ | refine blk_drew ?_ | refine blk_alloc ?_ _)); exact BK143.out⟩, ⟨by repeat (first | (with_reducible first | exact HB.out | apply below_alloc | apply pw_below_drewN | apply below_drew1 | refine below_set ?_ GE137.out | refine below_set ?_ GE143.out) | exact HB.out)⟩⟩
         case round =>
          clear H'
          try clear c1
          try clear p1
          try clear q1
          try clear hx1
          try clear c2
          try clear c2b0
          try clear c2b1
          try clear p2
          try clear q2
          try clear c3
          try clear q3
          try clear c4
          try clear p6
          try clear c9
          try clear c13
          try clear p14
          try clear q14
          try clear hx14
          try clear c17
          try clear c17b0
          try clear c19
          try clear c19b0
          try clear c19b1
          try clear c20
          try clear c20b0
          try clear c20b1
          try clear c21
          try clear q21
          try clear c22
          try clear c22b0
          try clear c23
          try clear c23b0
          try clear c24
          try clear c24b0
          try clear c25
          try clear c25b0
          try clear c25b1
          try clear c25b2
          try clear c26
          try clear c26b0
          try clear c26b1
          try clear c26b2
          try clear c27
          try clear c30
          try clear c30b0
          try clear c30b1
          try clear c31
          try clear c31b0
          try clear c31b1
          try clear q32
          try clear c34
          try clear c36
          try clear hcz14_0
          try clear hcz14_1
          try clear hcz14_2
          try clear hcz16_0
          try clear hcz16_1
          try clear hcz16_2
          try clear hcz28_0
          try clear hcz28_1
          try clear hcz28_2
          try clear hcz4_0
          try clear hcz4_1
          try clear hcz4_2
          try clear hfz14_0
          try clear hfz14_1
          try clear hfz14_2
          try clear hfz16_0
          try clear hfz16_1
          try clear hfz16_2
          try clear hfz28_0
          try clear hfz28_1
          try clear hfz28_2
          try clear hfz4_0
          try clear hfz4_1
          try clear hfz4_2
          try clear hx149_0
          try clear p1
          try clear p14
          try clear p149
          try clear p2
          try clear p6
          try clear q021
          try clear q1
          try clear q14
          try clear q149
          try clear q2
          try clear q21
          try clear q3
          try clear q32
          obtain ⟨x10_4, rfl, HA, HK4, HO_4, HO_144000, BK137, BK143, HB⟩ := hrel
          cases gk with
          | zero => exact absurd HA.out (by simp [head_Parse.l2])
          | succ k4 =>
           have H := HA.out
           clear HA
           simp only [head_Parse.l2] at H
           by_cases c37 : x10_4 < (x4_2.length : Int)
           ·rw [if_pos c37] at H
            have c37b0 : decide (x10_4 < (x4_2.length : Int)) = true := decide_eq_true c37
            clear c37
            by_cases c38 : 0 ≤ x10_4
            ·rw [if_pos c38] at H
             have c38b0 : decide (0 ≤ x10_4) = true := decide_eq_true c38
             clear c38
             replace H := Option.bind_eq_some_iff.mp H
             obtain ⟨t154, A390, H⟩ := H
             replace H : (if t154 = true then (head_Parse.l2 k4 x4_2 (wrap64 (x10_4 + 1)) x144000_2 x144001_7 (decide (t142 < 0))) else (if x10_4 ≤ (x4_2.length : Int) then ((head_field.f k4 (x4_2.take (x10_4 : Int).toNat)).bind fun bt160 => (if bt160.2.2.2 = true then (if x144000_2.length < 2932031007402 then (head_Parse.l1 k4 (x4_2.drop (x10_4 : Int).toNat) bt160.2.2.2 (x144000_2 ++ [(⟨bt160.1, bt160.2.1, bt160.2.2.1⟩ : S41)]) x144001_7 (decide (t142 < 0))) else (none)) else (head_Parse.l1 k4 (x4_2.drop (x10_4 : Int).toNat) bt160.2.2.2 x144000_2 x144001_7 (decide (t142 < 0))))) else (none))) = some (r1, r2, r3, r4) := H
             have A39 := Aside0.mk A390
             clear A390
             by_cases c40 : t154 = true
             ·subst c40
              have H1 : (head_Parse.l2 k4 x4_2 (wrap64 (x10_4 + 1)) x144000_2 x144001_7 (decide (t142 < 0))) = some (r1, r2, r3, r4) := by rw [if_pos rfl] at H; exact H
              clear H
              have H := H1
              clear H1
              have H' := Aside0.mk H
              clear H
              obtain ⟨Ao41, co41, eo41, _⟩ := Kd.Q_slice HO_4.out
              subst eo41
              have p153 : 0 ≤ (x10_4 : Int) := od
              have q153 : x10_4 < (x4_2.length : Int) := od
              obtain ⟨ad153, e153, hx153_0⟩ := Kd.at_string (Kd.Q_reads' HO_4.out).2.2 x10_4 p153 q153
              cases e153
              replace p153 := eq_true p153
              replace q153 := eq_true q153
              go_wp2_with (first | (go_at_call 41; (with_reducible refine (head_white.calls (rdOf ByteArray.empty x4_2 x10_4) true _ A39.out).mono ?_); rintro e w' ⟨rfl, ⟨nd, rfl⟩⟩))
              go_roundg k4
              case measure => have := HJ7.out; have := HK2.out; have := HJ32.out; have := HK4.out; omega
              case rel => exact ⟨(wrap64 (x10_4 + 1)), (by first | rfl | (simp; done) | (simp [*]; done)), H', ⟨by have := HJ7.out; have := HK2.out; have := HJ32.out; have := HK4.out; omega⟩, ⟨by (with_reducible repeat (first | apply Kd.Q_alloc | apply Kd.Q_drewN | apply Kd.Q_drew)); exact HO_4.out⟩, ⟨by (with_reducible repeat (first | apply Kd.R_alloc | apply Kd.R_drewN | apply Kd.R_drew)); exact HO_144000.out⟩, ⟨by (with_reducible repeat (first | refine blk_drewN ?_ _ | refine blk_drew ?_ | refine blk_alloc ?_ _)); exact BK137.out⟩, ⟨by (with_reducible repeat (first | refine blk_drewN ?_ _ | refine blk_drew ?_ | refine blk_alloc ?_ _)); exact BK143.out⟩, ⟨by repeat (first | (with_reducible first | exact HB.out | apply below_alloc | apply pw_below_drewN | apply below_drew1 | refine below_set ?_ GE137.out | refine below_set ?_ GE143.out) | exact HB.out)⟩⟩
             ·replace c40 := Bool.eq_false_iff.mpr c40
              subst c40
              have H1 : (if x10_4 ≤ (x4_2.length : Int) then ((head_field.f k4 (x4_2.take (x10_4 : Int).toNat)).bind fun bt160 => (if bt160.2.2.2 = true then (if x144000_2.length < 2932031007402 then (head_Parse.l1 k4 (x4_2.drop (x10_4 : Int).toNat) bt160.2.2.2 (x144000_2 ++ [(⟨bt160.1, bt160.2.1, bt160.2.2.1⟩ : S41)]) x144001_7 (decide (t142 < 0))) else (none)) else (head_Parse.l1 k4 (x4_2.drop (x10_4 : Int).toNat) bt160.2.2.2 x144000_2 x144001_7 (decide (t142 < 0))))) else (none)) = some (r1, r2, r3, r4) := by rw [if_neg (show ¬ (false = true) by decide)] at H; exact H
              clear H
              have H := H1
              clear H1
              have c42b0 := eq_true (od : 0 ≤ x10_4)
              by_cases c43 : x10_4 ≤ (x4_2.length : Int)
              ·rw [if_pos c43] at H
               have c43b0 := eq_true c43
               have c43b1 : decide (x10_4 ≤ (x4_2.length : Int)) = true := decide_eq_true c43
               clear c43
               obtain ⟨y156, hy156⟩ : ∃ y_ : List ByteArray, y_ = (x4_2.take (x10_4 : Int).toNat) := ⟨_, rfl⟩
               replace H : ((head_field.f k4 y156).bind fun bt160 => (if bt160.2.2.2 = true then (if x144000_2.length < 2932031007402 then (head_Parse.l1 k4 (x4_2.drop (x10_4 : Int).toNat) bt160.2.2.2 (x144000_2 ++ [(⟨bt160.1, bt160.2.1, bt160.2.2.1⟩ : S41)]) x144001_7 (decide (t142 < 0))) else (none)) else (head_Parse.l1 k4 (x4_2.drop (x10_4 : Int).toNat) bt160.2.2.2 x144000_2 x144001_7 (decide (t142 < 0))))) = some (r1, r2, r3, r4) := by first | (rw [hy156]; with_reducible exact H) | (have H2_ := (Option.bind_some _ _).symm.trans H; rw [hy156]; with_reducible exact H2_) | (have H2_ := (Option.bind_some _ _).symm.trans H; with_reducible exact H2_) | with_reducible exact H | (rw [hy156]; exact H) | exact H
               have Ny156 := Aside0.mk hy156
               clear hy156
               replace H := Option.bind_eq_some_iff.mp H
               obtain ⟨⟨t160, t161, t162, t163⟩, A440, H⟩ := H
               replace H : (if t163 = true then (if x144000_2.length < 2932031007402 then (head_Parse.l1 k4 (x4_2.drop (x10_4 : Int).toNat) t163 (x144000_2 ++ [(⟨t160, t161, t162⟩ : S41)]) x144001_7 (decide (t142 < 0))) else (none)) else (head_Parse.l1 k4 (x4_2.drop (x10_4 : Int).toNat) t163 x144000_2 x144001_7 (decide (t142 < 0)))) = some (r1, r2, r3, r4) := H
               have A44 := Aside0.mk A440
               clear A440
               by_cases c45 : t163 = true
               ·subst c45
                have H1 : (if x144000_2.length < 2932031007402 then (head_Parse.l1 k4 (x4_2.drop (x10_4 : Int).toNat) true (x144000_2 ++ [(⟨t160, t161, t162⟩ : S41)]) x144001_7 (decide (t142 < 0))) else (none)) = some (r1, r2, r3, r4) := by rw [if_pos rfl] at H; exact H
                clear H
                have H := H1
                clear H1
                by_cases c46 : x144000_2.length < 2932031007402
                ·rw [if_pos c46] at H
                 have LMc46 := Aside0.mk c46
                 clear c46
                 obtain ⟨y164, hy164⟩ : ∃ y_ : List (S41), y_ = (x144000_2 ++ [(⟨t160, t161, t162⟩ : S41)]) := ⟨_, rfl⟩
                 replace H : (head_Parse.l1 k4 (x4_2.drop (x10_4 : Int).toNat) true y164 x144001_7 (decide (t142 < 0))) = some (r1, r2, r3, r4) := by first | (rw [hy164]; with_reducible exact H) | (have H2_ := (Option.bind_some _ _).symm.trans H; rw [hy164]; with_reducible exact H2_) | (have H2_ := (Option.bind_some _ _).symm.trans H; with_reducible exact H2_) | with_reducible exact H | (rw [hy164]; exact H) | exact H
                 have Ny164 := Aside0.mk hy164
                 clear hy164
                 have c47b0 := eq_true (od : x10_4 ≤ (x4_2.length : Int))
                 obtain ⟨y167, hy167⟩ : ∃ y_ : List ByteArray, y_ = (x4_2.drop (x10_4 : Int).toNat) := ⟨_, rfl⟩
                 replace H : (head_Parse.l1 k4 y167 true y164 x144001_7 (decide (t142 < 0))) = some (r1, r2, r3, r4) := by first | (rw [hy167]; with_reducible exact H) | (have H2_ := (Option.bind_some _ _).symm.trans H; rw [hy167]; with_reducible exact H2_) | (have H2_ := (Option.bind_some _ _).symm.trans H; with_reducible exact H2_) | with_reducible exact H | (rw [hy167]; exact H) | exact H
                 have Ny167 := Aside0.mk hy167
                 clear hy167
                 have H' := Aside0.mk H
                 clear H
                 obtain ⟨Ao48, co48, eo48, _⟩ := Kd.Q_slice HO_4.out
                 subst eo48
                 have p153 : 0 ≤ (x10_4 : Int) := od
                 have q153 : x10_4 < (x4_2.length : Int) := od
                 obtain ⟨ad153, e153, hx153_0⟩ := Kd.at_string (Kd.Q_reads' HO_4.out).2.2 x10_4 p153 q153
                 cases e153
                 replace p153 := eq_true p153
                 replace q153 := eq_true q153
                 go_wp2_with (first | (go_at_call 41; (with_reducible refine (head_white.calls (rdOf ByteArray.empty x4_2 x10_4) false _ A39.out).mono ?_); rintro e w' ⟨rfl, ⟨nd, rfl⟩⟩; (try (rw [drewN_self wr]; generalize hq_ : World.drewN wr _ = wr; have n0_ : Aside0 (Kd.R k41 41 wr w.heap.size (fun _ => True) u144000 x144000_2) := ⟨by rw [← hq_]; exact (kr HO_144000.out)⟩; have n1_ : Aside0 (Kd.Q Kd.string 9 wr w.heap.size (fun _ => True) (.slice (some ad153) x4_2.length co48) x4_2) := ⟨by rw [← hq_]; exact (by (with_reducible repeat (first | apply Kd.Q_alloc | apply Kd.Q_drewN | apply Kd.Q_drew)); exact HO_4.out)⟩; have n2_ : Aside0 (wr.heap[gb137]? = some (.cells #[.slice none 0 0, .string (⟨#[]⟩ : ByteArray), .bool false] 24 (0, 0))) := ⟨by rw [← hq_]; exact (bk BK137.out)⟩; have n3_ : Aside0 (wr.heap[gb143]? = some (.cells #[u144000, .string x144001_7, .bool (decide (t142 < 0))] 24 (0, 0))) := ⟨by rw [← hq_]; exact (bk BK143.out)⟩; have n4_ : Aside0 (Below w.heap.size w wr) := ⟨by rw [← hq_]; exact bl⟩; clear HO_144000 HO_4 BK137 BK143 HB hq_; have HO_144000 := n0_; have HO_4 := n1_; have BK137 := n2_; have BK143 := n3_; have HB := n4_; clear n0_ n1_ n2_ n3_ n4_))) | ((with_reducible refine gate_dst (N := 11) rfl ?_); (try (refine gate_guard (by rfl) ?_; dsimp only)); refine box_event ?hg (N := 11) ?hd (cs := #[.string (⟨#[]⟩ : ByteArray), .string (⟨#[]⟩ : ByteArray), .string (⟨#[]⟩ : ByteArray)]) (t := 41) ?hr ?_; (case hd => rfl); (case hg => rfl); (case hr => first | (go_simp; done) | (go_simp; rfl)); intro gb155 hg w49 hbox hb; have n0_ := Aside0.mk (Kd.Q_below (by (with_reducible repeat (first | apply Kd.Q_alloc | apply Kd.Q_drewN | apply Kd.Q_drew)); exact HO_4.out) hb); have n1_ := Aside0.mk (Kd.R_below (Kd.R_elderB (kr HO_144000.out) gb155 (Nat.le_of_eq hg.symm)) hb); have n2_ := Aside0.mk (kb BK137.out hb); have n3_ := Aside0.mk (kb BK143.out hb); have n4_ := Aside0.mk (below_step bl hb); have n5_ := Aside0.mk (hbox); have n6_ := Aside0.mk ((by rw [hg]; exact (below_size bl) : w.heap.size ≤ gb155)); have n7_ := Aside0.mk ((by rw [hg]; exact (below_size bl) : w.heap.size ≤ gb155)); have n8_ := Aside0.mk ((by rw [hg]; exact Nat.ne_of_lt (blk_lt (bk BK137.out)) : gb137 ≠ gb155)); have n9_ := Aside0.mk ((by rw [hg]; exact Nat.ne_of_gt (blk_lt (bk BK137.out)) : gb155 ≠ gb137)); have n10_ := Aside0.mk ((by rw [hg]; exact Nat.ne_of_lt (blk_lt (bk BK143.out)) : gb143 ≠ gb155)); have n11_ := Aside0.mk ((by rw [hg]; exact Nat.ne_of_gt (blk_lt (bk BK143.out)) : gb155 ≠ gb143)); clear HO_4; clear HO_144000; clear BK137; clear BK143; clear HB; have HO_4 := n0_; have HO_144000 := n1_; have BK137 := n2_; have BK143 := n3_; have HB := n4_; have BK155 := n5_; have GW155 := n6_; have GE155 := n7_; have NB137_155 := n8_; have NB155_137 := n9_; have NB143_155 := n10_; have NB155_143 := n11_; clear n0_ n1_ n2_ n3_ n4_ n5_ n6_ n7_ n8_ n9_ n10_ n11_; clear hb hbox hg; have q50 : (x10_4 : Int) ≤ ((x4_2.length : Int) : Int) := od; obtain ⟨i050, hi050, _, hsz50, _⟩ := info_parts info9; have hroom50 : x4_2.length ≤ co48 := (Kd.Q_reads' HO_4.out).2.1; have hC50 : Kd.C Kd.string _ (some ad153) x4_2.length x4_2 := (Kd.Q_reads' HO_4.out).2.2; have hcut50 := cut_to (P := Tryd.prog) 37 9 .i64 Tryd.underlying37 hi050 (some ad153) x4_2.length co48 x10_4 (od) q50 hroom50; have hr50 := Kd.C_take (m := (x10_4 : Int).toNat) hC50 (by omega); have hy50 : y156.length = (x10_4 : Int).toNat := (by rw [Ny156.out, List.length_take]; omega); rw [← Ny156.out] at hr50; rw [← hy50] at hcut50; have HR159 := Aside0.mk hr50; have HC159 := Aside0.mk (show y156.length ≤ co48 from by omega); clear hr50 hC50 hroom50 hi050 hsz50; have KY50 := Aside0.mk hy50; clear hy50; have KL50 := Aside0.mk (show (x10_4 : Int).toNat ≤ x4_2.length from by omega); replace q50 := eq_true q50) | ((with_reducible refine gate_callee (f := 42) rfl ?_); refine goesL_ (some 71) rfl rfl Tryd.func42 (by kernel_rfl) rfl #[.slice (some ad153) y156.length co48] rfl ml ?_; (with_reducible refine (head_field.calls k4 _ _ y156 t160 t161 t162 true _ ?side1 ?side2 ?side3 A44.out).mono ?_); (case side1 => repeat (first | exact (by repeat (first | (with_reducible exact HR159.out) | (with_reducible refine Kd.C_alloc ?_ _) | (with_reducible refine Kd.C_drewN ?_ _) | (with_reducible refine Kd.C_drew ?_) | exact HR159.out)) | (with_reducible refine Kd.C_alloc ?_ _) | (with_reducible refine Kd.C_drewN ?_ _) | (with_reducible refine Kd.C_drew ?_))); (case side2 => exact HC159.out); (case side3 => exact Glob.below HG.out bl); rintro e w51 ⟨rfl, hb⟩; refine ⟨_, rfl, ?_⟩; have n0_ := Aside0.mk (Kd.Q_below (by (with_reducible repeat (first | apply Kd.Q_alloc | apply Kd.Q_drewN | apply Kd.Q_drew)); exact HO_4.out) hb); have n1_ := Aside0.mk (Kd.R_below (kr HO_144000.out) hb); have n2_ := Aside0.mk (kb BK137.out hb); have n3_ := Aside0.mk (kb BK143.out hb); have n4_ := Aside0.mk (kb BK155.out hb); have n5_ := Aside0.mk (Kd.C_below (by repeat (first | (with_reducible exact HR159.out) | (with_reducible refine Kd.C_alloc ?_ _) | (with_reducible refine Kd.C_drewN ?_ _) | (with_reducible refine Kd.C_drew ?_) | exact HR159.out)) hb); have n6_ := Aside0.mk (below_step bl hb); clear HO_4; clear HO_144000; clear BK137; clear BK143; clear BK155; clear HR159; clear HB; have HO_4 := n0_; have HO_144000 := n1_; have BK137 := n2_; have BK143 := n3_; have BK155 := n4_; have HR159 := n5_; have HB := n6_; clear n0_ n1_ n2_ n3_ n4_ n5_ n6_; (try clear hb); (try clear hb2); (try clear hk); (try clear hi); have hnb52 := NB155_137.out; have hnc52 := NB137_155.out; have hnb53 := NB155_143.out; have hnc53 := NB143_155.out; have hcz54_0 : w51.cell? ⟨gb155, 0, none⟩ = some (.string (⟨#[]⟩ : ByteArray)) := (blk_cell BK155.out 0).trans rfl; have hcz54_1 : w51.cell? ⟨gb155, 1, none⟩ = some (.string (⟨#[]⟩ : ByteArray)) := (blk_cell BK155.out 1).trans rfl; have hcz54_2 : w51.cell? ⟨gb155, 2, none⟩ = some (.string (⟨#[]⟩ : ByteArray)) := (blk_cell BK155.out 2).trans rfl; have hfz54_0 := blk_frozen BK155.out 0; have hfz54_1 := blk_frozen BK155.out 1; have hfz54_2 := blk_frozen BK155.out 2; have hnb55 := NB143_137.out; have hnc55 := NB137_143.out; have hcz56_0 : w51.cell? ⟨gb143, 0, none⟩ = some (u144000) := (blk_cell BK143.out 0).trans rfl; have hcz56_1 : w51.cell? ⟨gb143, 1, none⟩ = some (.string x144001_7) := (blk_cell BK143.out 1).trans rfl; have hcz56_2 : w51.cell? ⟨gb143, 2, none⟩ = some (.bool (decide (t142 < 0))) := (blk_cell BK143.out 2).trans rfl; have hfz56_0 := blk_frozen BK143.out 0; have hfz56_1 := blk_frozen BK143.out 1; have hfz56_2 := blk_frozen BK143.out 2) | ((with_reducible refine gate_builtin (b := .append) (xs := #[.tmp 76, .tmp 78]) rfl ?_); (try (refine gate_guard (by rfl) ?_; dsimp only)); at_builtin; refine Kd.R_append k41 (w0 := w) w.heap.size rfl (.tmp 76) (.tmp 78) 22 41 (.agg #[(.string ⟨#[]⟩), (.string ⟨#[]⟩), (.string ⟨#[]⟩)]) 48 rfl Tryd.underlying22 info41 rfl (by decide) (by omega) u144000 x144000_2 (⟨t160, t161, t162⟩ : S41) [.string t160, .string t161, .string t162] (fun k_ => k_ ≠ gb155) (fun _ => False) rfl (by first | (go_simp; done) | (go_simp; rfl)) ?aP (fun _ hk => hk.elim) ?aF ?aO ?aB ?aS ?aL ?_; (case aP => exact k41_mkM _ _ _ (⟨t160, t161, t162⟩ : S41)); (case aB => exact bl); (case aF => exact (fun k_ hk => Kd.freshB (g := gb155) (o := .cells #[.string t160, .string t161, .string t162] 41 (0, 0)) (by (with_reducible repeat (first | refine blk_drewN ?_ _ | refine blk_drew ?_ | refine blk_alloc ?_ _)); refine blk_put (cs := #[.string t160, .string t161, .string (⟨#[]⟩ : ByteArray)]) ?_ 2 _ rfl; (with_reducible repeat (first | refine blk_drewN ?_ _ | refine blk_drew ?_ | refine blk_alloc ?_ _)); refine blk_put (cs := #[.string t160, .string (⟨#[]⟩ : ByteArray), .string (⟨#[]⟩ : ByteArray)]) ?_ 1 _ rfl; (with_reducible repeat (first | refine blk_drewN ?_ _ | refine blk_drew ?_ | refine blk_alloc ?_ _)); refine blk_put (cs := #[.string (⟨#[]⟩ : ByteArray), .string (⟨#[]⟩ : ByteArray), .string (⟨#[]⟩ : ByteArray)]) ?_ 0 _ rfl; (with_reducible repeat (first | refine blk_drewN ?_ _ | refine blk_drew ?_ | refine blk_alloc ?_ _)); exact BK155.out) k_ hk)); (case aO => exact (by (with_reducible repeat (first | apply Kd.R_alloc | apply Kd.R_drewN | apply Kd.R_drew)); exact Kd.R_mono (Kd.R_far (p := ⟨gb155, 2, none⟩) (Kd.R_far (p := ⟨gb155, 1, none⟩) (Kd.R_far (p := ⟨gb155, 0, none⟩) (Kd.R_mono HO_144000.out (fun k_ hk => (⟨hk, hk.2⟩ : _ ∧ k_ ≠ gb155))) (fun _ hk => hk.2) (.string t160)) (fun _ hk => hk.2) (.string t161)) (fun _ hk => hk.2) (.string t162)) (fun _ hk => hk.1.2))); (case aS => exact (below_size bl)); (case aL => have := LMc46.out; omega); intro v165 w57 ho hb hg hat; rw [← Ny164.out] at ho; have n0_ := Aside0.mk (Kd.Q_over' (by (with_reducible repeat (first | apply Kd.Q_alloc | apply Kd.Q_drewN | apply Kd.Q_drew)); exact (Kd.Q_mono (Kd.Q_far (p := ⟨gb155, 2, none⟩) (Kd.Q_far (p := ⟨gb155, 1, none⟩) (Kd.Q_far (p := ⟨gb155, 0, none⟩) (Kd.Q_types HO_4.out BK155.out (by decide)) (fun _ hk => hk.2) (.string t160)) (fun _ hk => hk.2) (.string t161)) (fun _ hk => hk.2) (.string t162)) (fun _ h_ => h_.1))) (Kd.R_typed (by (with_reducible repeat (first | apply Kd.R_alloc | apply Kd.R_drewN | apply Kd.R_drew)); exact (Kd.R_mono (Kd.R_far (p := ⟨gb155, 2, none⟩) (Kd.R_far (p := ⟨gb155, 1, none⟩) (Kd.R_far (p := ⟨gb155, 0, none⟩) (Kd.R_mono HO_144000.out (fun k_ hk => (⟨hk, hk.2⟩ : _ ∧ k_ ≠ gb155))) (fun _ hk => hk.2) (.string t160)) (fun _ hk => hk.2) (.string t161)) (fun _ hk => hk.2) (.string t162)) (fun _ h_ => h_.1)))) (by decide) hg); have n1_ := Aside0.mk (blk_grown (g := gb137) (o := .cells #[.slice none 0 0, .string (⟨#[]⟩ : ByteArray), .bool false] 24 (0, 0)) (bk BK137.out) hg (Kd.R_ne HO_144000.out BK137.out (by decide))); have n2_ := Aside0.mk (blk_grown (g := gb143) (o := .cells #[u144000, .string x144001_7, .bool (decide (t142 < 0))] 24 (0, 0)) (bk BK143.out) hg (Kd.R_ne HO_144000.out BK143.out (by decide))); have n3_ := Aside0.mk (blk_grown (g := gb155) (o := .cells #[.string t160, .string t161, .string t162] 41 (0, 0)) (by (with_reducible repeat (first | refine blk_drewN ?_ _ | refine blk_drew ?_ | refine blk_alloc ?_ _)); refine blk_put (cs := #[.string t160, .string t161, .string (⟨#[]⟩ : ByteArray)]) ?_ 2 _ rfl; (with_reducible repeat (first | refine blk_drewN ?_ _ | refine blk_drew ?_ | refine blk_alloc ?_ _)); refine blk_put (cs := #[.string t160, .string (⟨#[]⟩ : ByteArray), .string (⟨#[]⟩ : ByteArray)]) ?_ 1 _ rfl; (with_reducible repeat (first | refine blk_drewN ?_ _ | refine blk_drew ?_ | refine blk_alloc ?_ _)); refine blk_put (cs := #[.string (⟨#[]⟩ : ByteArray), .string (⟨#[]⟩ : ByteArray), .string (⟨#[]⟩ : ByteArray)]) ?_ 0 _ rfl; (with_reducible repeat (first | refine blk_drewN ?_ _ | refine blk_drew ?_ | refine blk_alloc ?_ _)); exact BK155.out) hg (Kd.R_away HO_144000.out (fun _ hk => hk.2))); have n4_ := Aside0.mk (hb); have n5_ := Aside0.mk ((show Kd.C Kd.string w57 (some ad153) y156.length y156 from by rw [Ny156.out]; exact Kd.C_take (m := (x10_4 : Int).toNat) ((Kd.Q_reads' (Kd.Q_over' (by (with_reducible repeat (first | apply Kd.Q_alloc | apply Kd.Q_drewN | apply Kd.Q_drew)); exact (Kd.Q_mono (Kd.Q_far (p := ⟨gb155, 2, none⟩) (Kd.Q_far (p := ⟨gb155, 1, none⟩) (Kd.Q_far (p := ⟨gb155, 0, none⟩) (Kd.Q_types HO_4.out BK155.out (by decide)) (fun _ hk => hk.2) (.string t160)) (fun _ hk => hk.2) (.string t161)) (fun _ hk => hk.2) (.string t162)) (fun _ h_ => h_.1))) (Kd.R_typed (by (with_reducible repeat (first | apply Kd.R_alloc | apply Kd.R_drewN | apply Kd.R_drew)); exact (Kd.R_mono (Kd.R_far (p := ⟨gb155, 2, none⟩) (Kd.R_far (p := ⟨gb155, 1, none⟩) (Kd.R_far (p := ⟨gb155, 0, none⟩) (Kd.R_mono HO_144000.out (fun k_ hk => (⟨hk, hk.2⟩ : _ ∧ k_ ≠ gb155))) (fun _ hk => hk.2) (.string t160)) (fun _ hk => hk.2) (.string t161)) (fun _ hk => hk.2) (.string t162)) (fun _ h_ => h_.1)))) (by decide) hg)).2.2) KL50.out)); have n6_ := Aside0.mk (ho); clear HO_4; clear BK137; clear BK143; clear BK155; clear HB; clear HR159; clear HO_144000; have HO_4 := n0_; have BK137 := n1_; have BK143 := n2_; have BK155 := n3_; have HB := n4_; have HR159 := n5_; have HO166 := n6_; clear n0_ n1_ n2_ n3_ n4_ n5_ n6_; clear ho hb hg hat; obtain ⟨Ao58, co58, eo58⟩ := Kd.R_slice HO166.out; subst eo58; have hcz59_0 : w57.cell? ⟨gb143, 0, none⟩ = some (u144000) := (blk_cell BK143.out 0).trans rfl; have hcz59_1 : w57.cell? ⟨gb143, 1, none⟩ = some (.string x144001_7) := (blk_cell BK143.out 1).trans rfl; have hcz59_2 : w57.cell? ⟨gb143, 2, none⟩ = some (.bool (decide (t142 < 0))) := (blk_cell BK143.out 2).trans rfl; have hfz59_0 := blk_frozen BK143.out 0; have hfz59_1 := blk_frozen BK143.out 1; have hfz59_2 := blk_frozen BK143.out 2) | ((with_reducible refine gate_store (t := 22) (p := 80) rfl ?_); refine store_event (t := 22) (p := 80) (v := ?vo_w60) (w1 := (w57.setCell ⟨gb143, 0, none⟩ (.slice Ao58 y164.length co58))) ?hg ?ho ?hn ?hr ?_; (case ho => rfl); (case hg => rfl); (case hn => rfl); (case hr => first | (go_simp; done) | (go_simp; rfl)); intro w60 hw; have n0_ : Aside0 (Kd.Q Kd.string 9 w60 w.heap.size (fun _ => True) (.slice (some ad153) x4_2.length co48) x4_2) := ⟨(by rw [hw]; exact (by (with_reducible repeat (first | apply Kd.Q_alloc | apply Kd.Q_drewN | apply Kd.Q_drew)); exact Kd.Q_mono (Kd.Q_far (p := ⟨gb143, 0, none⟩) (Kd.Q_types HO_4.out BK143.out (by decide)) (fun _ hk => hk.2) (.slice Ao58 y164.length co58)) (fun _ hk => trivial)))⟩; have n1_ : Aside0 (Kd.R k41 41 w60 w.heap.size (fun k_ => k_ ≠ gb155) (.slice Ao58 y164.length co58) y164) := ⟨(by rw [hw]; exact (by (with_reducible repeat (first | apply Kd.R_alloc | apply Kd.R_drewN | apply Kd.R_drew)); exact Kd.R_mono (Kd.R_far (p := ⟨gb143, 0, none⟩) (Kd.R_types HO166.out BK143.out (by decide)) (fun _ hk => hk.2) (.slice Ao58 y164.length co58)) (fun _ hk => hk.1)))⟩; have n2_ : Aside0 (w60.heap[gb137]? = some (.cells #[.slice none 0 0, .string (⟨#[]⟩ : ByteArray), .bool false] 24 (0, 0))) := ⟨(by rw [hw]; exact (bk BK137.out))⟩; have n3_ : Aside0 (w60.heap[gb143]? = some (.cells #[.slice Ao58 y164.length co58, .string x144001_7, .bool (decide (t142 < 0))] 24 (0, 0))) := ⟨(by rw [hw]; exact (by (with_reducible repeat (first | refine blk_drewN ?_ _ | refine blk_drew ?_ | refine blk_alloc ?_ _)); refine blk_put (cs := #[u144000, .string x144001_7, .bool (decide (t142 < 0))]) ?_ 0 _ rfl; (with_reducible repeat (first | refine blk_drewN ?_ _ | refine blk_drew ?_ | refine blk_alloc ?_ _)); exact BK143.out))⟩; have n4_ : Aside0 (w60.heap[gb155]? = some (.cells #[.string t160, .string t161, .string t162] 41 (0, 0))) := ⟨(by rw [hw]; exact (bk BK155.out))⟩; have n5_ : Aside0 (Below w.heap.size w w60) := ⟨(by rw [hw]; exact bl)⟩; clear hw; clear HO_4; clear HO166; clear BK137; clear BK143; clear BK155; clear HB; have HO_4 := n0_; have HO166 := n1_; have BK137 := n2_; have BK143 := n3_; have BK155 := n4_; have HB := n5_; clear n0_ n1_ n2_ n3_ n4_ n5_; have q61 : (x10_4 : Int) ≤ ((x4_2.length : Int) : Int) := od; obtain ⟨i061, hi061, _, hsz61, _⟩ := info_parts info9; have hcut61 := cut_from (P := Tryd.prog) 37 9 .i64 Tryd.underlying37 hi061 1 hsz61 (some ad153) x4_2.length co48 x10_4 (od) q61; have hr61 := Kd.Q_drop (k := (x10_4 : Int).toNat) HO_4.out (by omega); obtain ⟨A61, hA61⟩ : ∃ A1, A1 = (if co48 = (x10_4 : Int).toNat then (some ad153) else ((some ad153) : Option Addr).map (·.add ((x10_4 : Int).toNat * 1))) := ⟨_, rfl⟩; obtain ⟨c61, hc61⟩ : ∃ c1, c1 = co48 - (x10_4 : Int).toNat := ⟨_, rfl⟩; have hy61 : y167.length = x4_2.length - (x10_4 : Int).toNat := (by rw [Ny167.out, List.length_drop]); rw [← Ny167.out] at hr61; rw [← hy61, ← hA61, ← hc61] at hcut61; replace hr61 : Kd.Q Kd.string 9 w60 w.heap.size (fun _ => True) (.slice A61 y167.length c61) y167 := (by rw [hA61, hc61, hy61]; exact hr61); have HE61 : Aside0 ((Value.slice A61 y167.length c61).ownBlock = (.slice (some ad153) x4_2.length co48 : Value).ownBlock) := ⟨by rw [hA61]; split <;> (cases ((some ad153) : Option Addr) <;> first | rfl | (simp only [Option.map_some, Value.ownBlock, add_block]; done))⟩; clear hy61 hi061 hsz61 HO_4 hA61 hc61; have HO169 := Aside0.mk hr61; clear hr61; replace q61 := eq_true q61))
                 go_roundg k4
                 case measure => have := HJ7.out; have := HK2.out; have := HJ32.out; have := HK4.out; omega
                 case rel => exact ⟨(y167), (true), (y164), (.slice Ao58 y164.length co58), (by first | rfl | (simp; done) | (simp [*]; done)), H', ⟨by have := HJ7.out; have := HK2.out; have := HJ32.out; have := HK4.out; omega⟩, ⟨by (with_reducible repeat (first | apply Kd.Q_alloc | apply Kd.Q_drewN | apply Kd.Q_drew)); exact HO169.out⟩, ⟨by (with_reducible repeat (first | apply Kd.R_alloc | apply Kd.R_drewN | apply Kd.R_drew)); exact Kd.R_mono HO166.out (fun _ hk => trivial)⟩, ⟨by (with_reducible repeat (first | refine blk_drewN ?_ _ | refine blk_drew ?_ | refine blk_alloc ?_ _)); exact BK137.out⟩, ⟨by (with_reducible repeat (first | refine blk_drewN ?_ _ | refine blk_drew ?_ | refine blk_alloc ?_ _)); exact BK143.out⟩, ⟨by repeat (first | (with_reducible first | exact HB.out | apply below_alloc | apply pw_below_drewN | apply below_drew1 | refine below_set ?_ GE137.out | refine below_set ?_ GE143.out | refine below_set ?_ GE155.out) | exact HB.out)⟩⟩
                ·rw [if_neg c46] at H
                 exact absurd H (by simp)
               ·replace c45 := Bool.eq_false_iff.mpr c45
                subst c45
                have H1 : (head_Parse.l1 k4 (x4_2.drop (x10_4 : Int).toNat) false x144000_2 x144001_7 (decide (t142 < 0))) = some (r1, r2, r3, r4) := by rw [if_neg (show ¬ (false = true) by decide)] at H; exact H
                clear H
                have H := H1
                clear H1
                have c62b0 := eq_true (od : x10_4 ≤ (x4_2.length : Int))
                obtain ⟨y170, hy170⟩ : ∃ y_ : List ByteArray, y_ = (x4_2.drop (x10_4 : Int).toNat) := ⟨_, rfl⟩
                replace H : (head_Parse.l1 k4 y170 false x144000_2 x144001_7 (decide (t142 < 0))) = some (r1, r2, r3, r4) := by first | (rw [hy170]; with_reducible exact H) | (have H2_ := (Option.bind_some _ _).symm.trans H; rw [hy170]; with_reducible exact H2_) | (have H2_ := (Option.bind_some _ _).symm.trans H; with_reducible exact H2_) | with_reducible exact H | (rw [hy170]; exact H) | exact H
                have Ny170 := Aside0.mk hy170
                clear hy170
                have H' := Aside0.mk H
                clear H
                obtain ⟨Ao63, co63, eo63, _⟩ := Kd.Q_slice HO_4.out
                subst eo63
                have p153 : 0 ≤ (x10_4 : Int) := od
                have q153 : x10_4 < (x4_2.length : Int) := od
                obtain ⟨ad153, e153, hx153_0⟩ := Kd.at_string (Kd.Q_reads' HO_4.out).2.2 x10_4 p153 q153
                cases e153
                replace p153 := eq_true p153
                replace q153 := eq_true q153
                go_wp2_with (first | (go_at_call 41; (with_reducible refine (head_white.calls (rdOf ByteArray.empty x4_2 x10_4) false _ A39.out).mono ?_); rintro e w' ⟨rfl, ⟨nd, rfl⟩⟩; (try (rw [drewN_self wr]; generalize hq_ : World.drewN wr _ = wr; have n0_ : Aside0 (Kd.R k41 41 wr w.heap.size (fun _ => True) u144000 x144000_2) := ⟨by rw [← hq_]; exact (kr HO_144000.out)⟩; have n1_ : Aside0 (Kd.Q Kd.string 9 wr w.heap.size (fun _ => True) (.slice (some ad153) x4_2.length co63) x4_2) := ⟨by rw [← hq_]; exact (by (with_reducible repeat (first | apply Kd.Q_alloc | apply Kd.Q_drewN | apply Kd.Q_drew)); exact HO_4.out)⟩; have n2_ : Aside0 (wr.heap[gb137]? = some (.cells #[.slice none 0 0, .string (⟨#[]⟩ : ByteArray), .bool false] 24 (0, 0))) := ⟨by rw [← hq_]; exact (bk BK137.out)⟩; have n3_ : Aside0 (wr.heap[gb143]? = some (.cells #[u144000, .string x144001_7, .bool (decide (t142 < 0))] 24 (0, 0))) := ⟨by rw [← hq_]; exact (bk BK143.out)⟩; have n4_ : Aside0 (Below w.heap.size w wr) := ⟨by rw [← hq_]; exact bl⟩; clear HO_144000 HO_4 BK137 BK143 HB hq_; have HO_144000 := n0_; have HO_4 := n1_; have BK137 := n2_; have BK143 := n3_; have HB := n4_; clear n0_ n1_ n2_ n3_ n4_))) | ((with_reducible refine gate_dst (N := 11) rfl ?_); (try (refine gate_guard (by rfl) ?_; dsimp only)); refine box_event ?hg (N := 11) ?hd (cs := #[.string (⟨#[]⟩ : ByteArray), .string (⟨#[]⟩ : ByteArray), .string (⟨#[]⟩ : ByteArray)]) (t := 41) ?hr ?_; (case hd => rfl); (case hg => rfl); (case hr => first | (go_simp; done) | (go_simp; rfl)); intro gb155 hg w64 hbox hb; have n0_ := Aside0.mk (Kd.Q_below (by (with_reducible repeat (first | apply Kd.Q_alloc | apply Kd.Q_drewN | apply Kd.Q_drew)); exact HO_4.out) hb); have n1_ := Aside0.mk (Kd.R_below (Kd.R_elderB (kr HO_144000.out) gb155 (Nat.le_of_eq hg.symm)) hb); have n2_ := Aside0.mk (kb BK137.out hb); have n3_ := Aside0.mk (kb BK143.out hb); have n4_ := Aside0.mk (below_step bl hb); have n5_ := Aside0.mk (hbox); have n6_ := Aside0.mk ((by rw [hg]; exact (below_size bl) : w.heap.size ≤ gb155)); have n7_ := Aside0.mk ((by rw [hg]; exact (below_size bl) : w.heap.size ≤ gb155)); have n8_ := Aside0.mk ((by rw [hg]; exact Nat.ne_of_lt (blk_lt (bk BK137.out)) : gb137 ≠ gb155)); have n9_ := Aside0.mk ((by rw [hg]; exact Nat.ne_of_gt (blk_lt (bk BK137.out)) : gb155 ≠ gb137)); have n10_ := Aside0.mk ((by rw [hg]; exact Nat.ne_of_lt (blk_lt (bk BK143.out)) : gb143 ≠ gb155)); have n11_ := Aside0.mk ((by rw [hg]; exact Nat.ne_of_gt (blk_lt (bk BK143.out)) : gb155 ≠ gb143)); clear HO_4; clear HO_144000; clear BK137; clear BK143; clear HB; have HO_4 := n0_; have HO_144000 := n1_; have BK137 := n2_; have BK143 := n3_; have HB := n4_; have BK155 := n5_; have GW155 := n6_; have GE155 := n7_; have NB137_155 := n8_; have NB155_137 := n9_; have NB143_155 := n10_; have NB155_143 := n11_; clear n0_ n1_ n2_ n3_ n4_ n5_ n6_ n7_ n8_ n9_ n10_ n11_; clear hb hbox hg; have q65 : (x10_4 : Int) ≤ ((x4_2.length : Int) : Int) := od; obtain ⟨i065, hi065, _, hsz65, _⟩ := info_parts info9; have hroom65 : x4_2.length ≤ co63 := (Kd.Q_reads' HO_4.out).2.1; have hC65 : Kd.C Kd.string _ (some ad153) x4_2.length x4_2 := (Kd.Q_reads' HO_4.out).2.2; have hcut65 := cut_to (P := Tryd.prog) 37 9 .i64 Tryd.underlying37 hi065 (some ad153) x4_2.length co63 x10_4 (od) q65 hroom65; have hr65 := Kd.C_take (m := (x10_4 : Int).toNat) hC65 (by omega); have hy65 : y156.length = (x10_4 : Int).toNat := (by rw [Ny156.out, List.length_take]; omega); rw [← Ny156.out] at hr65; rw [← hy65] at hcut65; have HR159 := Aside0.mk hr65; have HC159 := Aside0.mk (show y156.length ≤ co63 from by omega); clear hr65 hC65 hroom65 hi065 hsz65; have KY65 := Aside0.mk hy65; clear hy65; have KL65 := Aside0.mk (show (x10_4 : Int).toNat ≤ x4_2.length from by omega); replace q65 := eq_true q65) | ((with_reducible refine gate_callee (f := 42) rfl ?_); refine goesL_ (some 71) rfl rfl Tryd.func42 (by kernel_rfl) rfl #[.slice (some ad153) y156.length co63] rfl ml ?_; (with_reducible refine (head_field.calls k4 _ _ y156 t160 t161 t162 false _ ?side1 ?side2 ?side3 A44.out).mono ?_); (case side1 => repeat (first | exact (by repeat (first | (with_reducible exact HR159.out) | (with_reducible refine Kd.C_alloc ?_ _) | (with_reducible refine Kd.C_drewN ?_ _) | (with_reducible refine Kd.C_drew ?_) | exact HR159.out)) | (with_reducible refine Kd.C_alloc ?_ _) | (with_reducible refine Kd.C_drewN ?_ _) | (with_reducible refine Kd.C_drew ?_))); (case side2 => exact HC159.out); (case side3 => exact Glob.below HG.out bl); rintro e w66 ⟨rfl, hb⟩; refine ⟨_, rfl, ?_⟩; have n0_ := Aside0.mk (Kd.Q_below (by (with_reducible repeat (first | apply Kd.Q_alloc | apply Kd.Q_drewN | apply Kd.Q_drew)); exact HO_4.out) hb); have n1_ := Aside0.mk (Kd.R_below (kr HO_144000.out) hb); have n2_ := Aside0.mk (kb BK137.out hb); have n3_ := Aside0.mk (kb BK143.out hb); have n4_ := Aside0.mk (kb BK155.out hb); have n5_ := Aside0.mk (Kd.C_below (by repeat (first | (with_reducible exact HR159.out) | (with_reducible refine Kd.C_alloc ?_ _) | (with_reducible refine Kd.C_drewN ?_ _) | (with_reducible refine Kd.C_drew ?_) | exact HR159.out)) hb); have n6_ := Aside0.mk (below_step bl hb); clear HO_4; clear HO_144000; clear BK137; clear BK143; clear BK155; clear HR159; clear HB; have HO_4 := n0_; have HO_144000 := n1_; have BK137 := n2_; have BK143 := n3_; have BK155 := n4_; have HR159 := n5_; have HB := n6_; clear n0_ n1_ n2_ n3_ n4_ n5_ n6_; (try clear hb); (try clear hb2); (try clear hk); (try clear hi); have hnb67 := NB155_137.out; have hnc67 := NB137_155.out; have hnb68 := NB155_143.out; have hnc68 := NB143_155.out; have hcz69_0 : w66.cell? ⟨gb155, 0, none⟩ = some (.string (⟨#[]⟩ : ByteArray)) := (blk_cell BK155.out 0).trans rfl; have hcz69_1 : w66.cell? ⟨gb155, 1, none⟩ = some (.string (⟨#[]⟩ : ByteArray)) := (blk_cell BK155.out 1).trans rfl; have hcz69_2 : w66.cell? ⟨gb155, 2, none⟩ = some (.string (⟨#[]⟩ : ByteArray)) := (blk_cell BK155.out 2).trans rfl; have hfz69_0 := blk_frozen BK155.out 0; have hfz69_1 := blk_frozen BK155.out 1; have hfz69_2 := blk_frozen BK155.out 2) | ((with_reducible refine gate_store (t := 41) (p := 11) rfl ?_); refine store_event (t := 41) (p := 11) (v := ?vo_w70) (w1 := (((w66.setCell ⟨gb155, 0, none⟩ (.string t160)).setCell ⟨gb155, 1, none⟩ (.string t161)).setCell ⟨gb155, 2, none⟩ (.string t162))) ?hg ?ho ?hn ?hr ?_; (case ho => rfl); (case hg => rfl); (case hn => rfl); (case hr => first | (go_simp; done) | (go_simp; rfl)); intro w70 hw; have n0_ : Aside0 (Kd.Q Kd.string 9 w70 w.heap.size (fun _ => True) (.slice (some ad153) x4_2.length co63) x4_2) := ⟨(by rw [hw]; exact (by (with_reducible repeat (first | apply Kd.Q_alloc | apply Kd.Q_drewN | apply Kd.Q_drew)); exact Kd.Q_mono (Kd.Q_far (p := ⟨gb155, 2, none⟩) (Kd.Q_far (p := ⟨gb155, 1, none⟩) (Kd.Q_far (p := ⟨gb155, 0, none⟩) (Kd.Q_types HO_4.out BK155.out (by decide)) (fun _ hk => hk.2) (.string t160)) (fun _ hk => hk.2) (.string t161)) (fun _ hk => hk.2) (.string t162)) (fun _ hk => trivial)))⟩; have n1_ : Aside0 (Kd.R k41 41 w70 w.heap.size (fun k_ => k_ ≠ gb155) u144000 x144000_2) := ⟨(by rw [hw]; exact (by (with_reducible repeat (first | apply Kd.R_alloc | apply Kd.R_drewN | apply Kd.R_drew)); exact Kd.R_mono (Kd.R_far (p := ⟨gb155, 2, none⟩) (Kd.R_far (p := ⟨gb155, 1, none⟩) (Kd.R_far (p := ⟨gb155, 0, none⟩) (Kd.R_mono HO_144000.out (fun k_ hk => (⟨hk, hk.2⟩ : _ ∧ k_ ≠ gb155))) (fun _ hk => hk.2) (.string t160)) (fun _ hk => hk.2) (.string t161)) (fun _ hk => hk.2) (.string t162)) (fun _ hk => hk.1.2)))⟩; have n2_ : Aside0 (w70.heap[gb137]? = some (.cells #[.slice none 0 0, .string (⟨#[]⟩ : ByteArray), .bool false] 24 (0, 0))) := ⟨(by rw [hw]; exact (bk BK137.out))⟩; have n3_ : Aside0 (w70.heap[gb143]? = some (.cells #[u144000, .string x144001_7, .bool (decide (t142 < 0))] 24 (0, 0))) := ⟨(by rw [hw]; exact (bk BK143.out))⟩; have n4_ : Aside0 (w70.heap[gb155]? = some (.cells #[.string t160, .string t161, .string t162] 41 (0, 0))) := ⟨(by rw [hw]; exact (by (with_reducible repeat (first | refine blk_drewN ?_ _ | refine blk_drew ?_ | refine blk_alloc ?_ _)); refine blk_put (cs := #[.string t160, .string t161, .string (⟨#[]⟩ : ByteArray)]) ?_ 2 _ rfl; (with_reducible repeat (first | refine blk_drewN ?_ _ | refine blk_drew ?_ | refine blk_alloc ?_ _)); refine blk_put (cs := #[.string t160, .string (⟨#[]⟩ : ByteArray), .string (⟨#[]⟩ : ByteArray)]) ?_ 1 _ rfl; (with_reducible repeat (first | refine blk_drewN ?_ _ | refine blk_drew ?_ | refine blk_alloc ?_ _)); refine blk_put (cs := #[.string (⟨#[]⟩ : ByteArray), .string (⟨#[]⟩ : ByteArray), .string (⟨#[]⟩ : ByteArray)]) ?_ 0 _ rfl; (with_reducible repeat (first | refine blk_drewN ?_ _ | refine blk_drew ?_ | refine blk_alloc ?_ _)); exact BK155.out))⟩; have n5_ : Aside0 (Below w.heap.size w w70) := ⟨(by rw [hw]; exact bl)⟩; clear hw; clear HO_4; clear HO_144000; clear BK137; clear BK143; clear BK155; clear HB; have HO_4 := n0_; have HO_144000 := n1_; have BK137 := n2_; have BK143 := n3_; have BK155 := n4_; have HB := n5_; clear n0_ n1_ n2_ n3_ n4_ n5_; have q71 : (x10_4 : Int) ≤ ((x4_2.length : Int) : Int) := od; obtain ⟨i071, hi071, _, hsz71, _⟩ := info_parts info9; have hcut71 := cut_from (P := Tryd.prog) 37 9 .i64 Tryd.underlying37 hi071 1 hsz71 (some ad153) x4_2.length co63 x10_4 (od) q71; have hr71 := Kd.Q_drop (k := (x10_4 : Int).toNat) HO_4.out (by omega); obtain ⟨A71, hA71⟩ : ∃ A1, A1 = (if co63 = (x10_4 : Int).toNat then (some ad153) else ((some ad153) : Option Addr).map (·.add ((x10_4 : Int).toNat * 1))) := ⟨_, rfl⟩; obtain ⟨c71, hc71⟩ : ∃ c1, c1 = co63 - (x10_4 : Int).toNat := ⟨_, rfl⟩; have hy71 : y170.length = x4_2.length - (x10_4 : Int).toNat := (by rw [Ny170.out, List.length_drop]); rw [← Ny170.out] at hr71; rw [← hy71, ← hA71, ← hc71] at hcut71; replace hr71 : Kd.Q Kd.string 9 w70 w.heap.size (fun _ => True) (.slice A71 y170.length c71) y170 := (by rw [hA71, hc71, hy71]; exact hr71); have HE71 : Aside0 ((Value.slice A71 y170.length c71).ownBlock = (.slice (some ad153) x4_2.length co63 : Value).ownBlock) := ⟨by rw [hA71]; split <;> (cases ((some ad153) : Option Addr) <;> first | rfl | (simp only [Option.map_some, Value.ownBlock, add_block]; done))⟩; clear hy71 hi071 hsz71 HO_4 hA71 hc71; have HO172 := Aside0.mk hr71; clear hr71; replace q71 := eq_true q71))
                go_roundg k4
                case measure => have := HJ7.out; have := HK2.out; have := HJ32.out; have := HK4.out; omega
                case rel => exact ⟨(y170), (false), (x144000_2), (u144000), (by first | rfl | (simp; done) | (simp [*]; done)), H', ⟨by have := HJ7.out; have := HK2.out; have := HJ32.out; have := HK4.out; omega⟩, ⟨by (with_reducible repeat (first | apply Kd.Q_alloc | apply Kd.Q_drewN | apply Kd.Q_drew)); exact HO172.out⟩, ⟨by (with_reducible repeat (first | apply Kd.R_alloc | apply Kd.R_drewN | apply Kd.R_drew)); exact Kd.R_mono HO_144000.out (fun _ hk => trivial)⟩, ⟨by (with_reducible repeat (first | refine blk_drewN ?_ _ | refine blk_drew ?_ | refine blk_alloc ?_ _)); exact BK137.out⟩, ⟨by (with_reducible repeat (first | refine blk_drewN ?_ _ | refine blk_drew ?_ | refine blk_alloc ?_ _)); exact BK143.out⟩, ⟨by repeat (first | (with_reducible first | exact HB.out | apply below_alloc | apply pw_below_drewN | apply below_drew1 | refine below_set ?_ GE137.out | refine below_set ?_ GE143.out | refine below_set ?_ GE155.out) | exact HB.out)⟩⟩
              ·rw [if_neg c43] at H
               exact absurd H (by simp)
            ·rw [if_neg c38] at H
             exact absurd H (by simp)
           ·rw [if_neg c37] at H
            have c37b0 : decide (x10_4 < (x4_2.length : Int)) = false := decide_eq_false c37
            clear c37
            by_cases c72 : 0 ≤ x10_4
            ·rw [if_pos c72] at H
             have c72b0 := eq_true c72
             have c72b1 : decide (0 ≤ x10_4) = true := decide_eq_true c72
             clear c72
             by_cases c73 : x10_4 ≤ (x4_2.length : Int)
             ·rw [if_pos c73] at H
              have c73b0 := eq_true c73
              have c73b1 : decide (x10_4 ≤ (x4_2.length : Int)) = true := decide_eq_true c73
              clear c73
              obtain ⟨y174, hy174⟩ : ∃ y_ : List ByteArray, y_ = (x4_2.take (x10_4 : Int).toNat) := ⟨_, rfl⟩
              replace H : ((head_field.f k4 y174).bind fun bt178 => (if bt178.2.2.2 = true then (if x144000_2.length < 2932031007402 then (head_Parse.l1 k4 (x4_2.drop (x10_4 : Int).toNat) bt178.2.2.2 (x144000_2 ++ [(⟨bt178.1, bt178.2.1, bt178.2.2.1⟩ : S41)]) x144001_7 (decide (t142 < 0))) else (none)) else (head_Parse.l1 k4 (x4_2.drop (x10_4 : Int).toNat) bt178.2.2.2 x144000_2 x144001_7 (decide (t142 < 0))))) = some (r1, r2, r3, r4) := by first | (rw [hy174]; with_reducible exact H) | (have H2_ := (Option.bind_some _ _).symm.trans H; rw [hy174]; with_reducible exact H2_) | (have H2_ := (Option.bind_some _ _).symm.trans H; with_reducible exact H2_) | with_reducible exact H | (rw [hy174]; exact H) | exact H
              have Ny174 := Aside0.mk hy174
              clear hy174
              replace H := Option.bind_eq_some_iff.mp H
              obtain ⟨⟨t178, t179, t180, t181⟩, A740, H⟩ := H
              replace H : (if t181 = true then (if x144000_2.length < 2932031007402 then (head_Parse.l1 k4 (x4_2.drop (x10_4 : Int).toNat) t181 (x144000_2 ++ [(⟨t178, t179, t180⟩ : S41)]) x144001_7 (decide (t142 < 0))) else (none)) else (head_Parse.l1 k4 (x4_2.drop (x10_4 : Int).toNat) t181 x144000_2 x144001_7 (decide (t142 < 0)))) = some (r1, r2, r3, r4) := H
              have A74 := Aside0.mk A740
              clear A740
              by_cases c75 : t181 = true
              ·subst c75
               have H1 : (if x144000_2.length < 2932031007402 then (head_Parse.l1 k4 (x4_2.drop (x10_4 : Int).toNat) true (x144000_2 ++ [(⟨t178, t179, t180⟩ : S41)]) x144001_7 (decide (t142 < 0))) else (none)) = some (r1, r2, r3, r4) := by rw [if_pos rfl] at H; exact H
               clear H
               have H := H1
               clear H1
               by_cases c76 : x144000_2.length < 2932031007402
               ·rw [if_pos c76] at H
                have LMc76 := Aside0.mk c76
                clear c76
                obtain ⟨y182, hy182⟩ : ∃ y_ : List (S41), y_ = (x144000_2 ++ [(⟨t178, t179, t180⟩ : S41)]) := ⟨_, rfl⟩
                replace H : (head_Parse.l1 k4 (x4_2.drop (x10_4 : Int).toNat) true y182 x144001_7 (decide (t142 < 0))) = some (r1, r2, r3, r4) := by first | (rw [hy182]; with_reducible exact H) | (have H2_ := (Option.bind_some _ _).symm.trans H; rw [hy182]; with_reducible exact H2_) | (have H2_ := (Option.bind_some _ _).symm.trans H; with_reducible exact H2_) | with_reducible exact H | (rw [hy182]; exact H) | exact H
                have Ny182 := Aside0.mk hy182
                clear hy182
                have c77b0 := eq_true (od : x10_4 ≤ (x4_2.length : Int))
                obtain ⟨y185, hy185⟩ : ∃ y_ : List ByteArray, y_ = (x4_2.drop (x10_4 : Int).toNat) := ⟨_, rfl⟩
                replace H : (head_Parse.l1 k4 y185 true y182 x144001_7 (decide (t142 < 0))) = some (r1, r2, r3, r4) := by first | (rw [hy185]; with_reducible exact H) | (have H2_ := (Option.bind_some _ _).symm.trans H; rw [hy185]; with_reducible exact H2_) | (have H2_ := (Option.bind_some _ _).symm.trans H; with_reducible exact H2_) | with_reducible exact H | (rw [hy185]; exact H) | exact H
                have Ny185 := Aside0.mk hy185
                clear hy185
                have H' := Aside0.mk H
                clear H
                obtain ⟨Ao78, co78, eo78, _⟩ := Kd.Q_slice HO_4.out
                subst eo78
                go_wp2_with (first | ((with_reducible refine gate_dst (N := 11) rfl ?_); (try (refine gate_guard (by rfl) ?_; dsimp only)); refine box_event ?hg (N := 11) ?hd (cs := #[.string (⟨#[]⟩ : ByteArray), .string (⟨#[]⟩ : ByteArray), .string (⟨#[]⟩ : ByteArray)]) (t := 41) ?hr ?_; (case hd => rfl); (case hg => rfl); (case hr => first | (go_simp; done) | (go_simp; rfl)); intro gb173 hg w79 hbox hb; have n0_ := Aside0.mk (Kd.Q_below (by (with_reducible repeat (first | apply Kd.Q_alloc | apply Kd.Q_drewN | apply Kd.Q_drew)); exact HO_4.out) hb); have n1_ := Aside0.mk (Kd.R_below (Kd.R_elderB (kr HO_144000.out) gb173 (Nat.le_of_eq hg.symm)) hb); have n2_ := Aside0.mk (kb BK137.out hb); have n3_ := Aside0.mk (kb BK143.out hb); have n4_ := Aside0.mk (below_step bl hb); have n5_ := Aside0.mk (hbox); have n6_ := Aside0.mk ((by rw [hg]; exact (below_size bl) : w.heap.size ≤ gb173)); have n7_ := Aside0.mk ((by rw [hg]; exact (below_size bl) : w.heap.size ≤ gb173)); have n8_ := Aside0.mk ((by rw [hg]; exact Nat.ne_of_lt (blk_lt (bk BK137.out)) : gb137 ≠ gb173)); have n9_ := Aside0.mk ((by rw [hg]; exact Nat.ne_of_gt (blk_lt (bk BK137.out)) : gb173 ≠ gb137)); have n10_ := Aside0.mk ((by rw [hg]; exact Nat.ne_of_lt (blk_lt (bk BK143.out)) : gb143 ≠ gb173)); have n11_ := Aside0.mk ((by rw [hg]; exact Nat.ne_of_gt (blk_lt (bk BK143.out)) : gb173 ≠ gb143)); clear HO_4; clear HO_144000; clear BK137; clear BK143; clear HB; have HO_4 := n0_; have HO_144000 := n1_; have BK137 := n2_; have BK143 := n3_; have HB := n4_; have BK173 := n5_; have GW173 := n6_; have GE173 := n7_; have NB137_173 := n8_; have NB173_137 := n9_; have NB143_173 := n10_; have NB173_143 := n11_; clear n0_ n1_ n2_ n3_ n4_ n5_ n6_ n7_ n8_ n9_ n10_ n11_; clear hb hbox hg; have q80 : (x10_4 : Int) ≤ ((x4_2.length : Int) : Int) := od; obtain ⟨i080, hi080, _, hsz80, _⟩ := info_parts info9; have hroom80 : x4_2.length ≤ co78 := (Kd.Q_reads' HO_4.out).2.1; have hC80 : Kd.C Kd.string _ Ao78 x4_2.length x4_2 := (Kd.Q_reads' HO_4.out).2.2; have hcut80 := cut_to (P := Tryd.prog) 37 9 .i64 Tryd.underlying37 hi080 Ao78 x4_2.length co78 x10_4 (od) q80 hroom80; have hr80 := Kd.C_take (m := (x10_4 : Int).toNat) hC80 (by omega); have hy80 : y174.length = (x10_4 : Int).toNat := (by rw [Ny174.out, List.length_take]; omega); rw [← Ny174.out] at hr80; rw [← hy80] at hcut80; have HR177 := Aside0.mk hr80; have HC177 := Aside0.mk (show y174.length ≤ co78 from by omega); clear hr80 hC80 hroom80 hi080 hsz80; have KY80 := Aside0.mk hy80; clear hy80; have KL80 := Aside0.mk (show (x10_4 : Int).toNat ≤ x4_2.length from by omega); replace q80 := eq_true q80) | ((with_reducible refine gate_callee (f := 42) rfl ?_); refine goesL_ (some 71) rfl rfl Tryd.func42 (by kernel_rfl) rfl #[.slice Ao78 y174.length co78] rfl ml ?_; (with_reducible refine (head_field.calls k4 _ _ y174 t178 t179 t180 true _ ?side1 ?side2 ?side3 A74.out).mono ?_); (case side1 => repeat (first | exact (by repeat (first | (with_reducible exact HR177.out) | (with_reducible refine Kd.C_alloc ?_ _) | (with_reducible refine Kd.C_drewN ?_ _) | (with_reducible refine Kd.C_drew ?_) | exact HR177.out)) | (with_reducible refine Kd.C_alloc ?_ _) | (with_reducible refine Kd.C_drewN ?_ _) | (with_reducible refine Kd.C_drew ?_))); (case side2 => exact HC177.out); (case side3 => exact Glob.below HG.out bl); rintro e w81 ⟨rfl, hb⟩; refine ⟨_, rfl, ?_⟩; have n0_ := Aside0.mk (Kd.Q_below (by (with_reducible repeat (first | apply Kd.Q_alloc | apply Kd.Q_drewN | apply Kd.Q_drew)); exact HO_4.out) hb); have n1_ := Aside0.mk (Kd.R_below (kr HO_144000.out) hb); have n2_ := Aside0.mk (kb BK137.out hb); have n3_ := Aside0.mk (kb BK143.out hb); have n4_ := Aside0.mk (kb BK173.out hb); have n5_ := Aside0.mk (Kd.C_below (by repeat (first | (with_reducible exact HR177.out) | (with_reducible refine Kd.C_alloc ?_ _) | (with_reducible refine Kd.C_drewN ?_ _) | (with_reducible refine Kd.C_drew ?_) | exact HR177.out)) hb); have n6_ := Aside0.mk (below_step bl hb); clear HO_4; clear HO_144000; clear BK137; clear BK143; clear BK173; clear HR177; clear HB; have HO_4 := n0_; have HO_144000 := n1_; have BK137 := n2_; have BK143 := n3_; have BK173 := n4_; have HR177 := n5_; have HB := n6_; clear n0_ n1_ n2_ n3_ n4_ n5_ n6_; (try clear hb); (try clear hb2); (try clear hk); (try clear hi); have hnb82 := NB173_137.out; have hnc82 := NB137_173.out; have hnb83 := NB173_143.out; have hnc83 := NB143_173.out; have hcz84_0 : w81.cell? ⟨gb173, 0, none⟩ = some (.string (⟨#[]⟩ : ByteArray)) := (blk_cell BK173.out 0).trans rfl; have hcz84_1 : w81.cell? ⟨gb173, 1, none⟩ = some (.string (⟨#[]⟩ : ByteArray)) := (blk_cell BK173.out 1).trans rfl; have hcz84_2 : w81.cell? ⟨gb173, 2, none⟩ = some (.string (⟨#[]⟩ : ByteArray)) := (blk_cell BK173.out 2).trans rfl; have hfz84_0 := blk_frozen BK173.out 0; have hfz84_1 := blk_frozen BK173.out 1; have hfz84_2 := blk_frozen BK173.out 2; have hnb85 := NB143_137.out; have hnc85 := NB137_143.out; have hcz86_0 : w81.cell? ⟨gb143, 0, none⟩ = some (u144000) := (blk_cell BK143.out 0).trans rfl; have hcz86_1 : w81.cell? ⟨gb143, 1, none⟩ = some (.string x144001_7) := (blk_cell BK143.out 1).trans rfl; have hcz86_2 : w81.cell? ⟨gb143, 2, none⟩ = some (.bool (decide (t142 < 0))) := (blk_cell BK143.out 2).trans rfl; have hfz86_0 := blk_frozen BK143.out 0; have hfz86_1 := blk_frozen BK143.out 1; have hfz86_2 := blk_frozen BK143.out 2) | ((with_reducible refine gate_builtin (b := .append) (xs := #[.tmp 76, .tmp 78]) rfl ?_); (try (refine gate_guard (by rfl) ?_; dsimp only)); at_builtin; refine Kd.R_append k41 (w0 := w) w.heap.size rfl (.tmp 76) (.tmp 78) 22 41 (.agg #[(.string ⟨#[]⟩), (.string ⟨#[]⟩), (.string ⟨#[]⟩)]) 48 rfl Tryd.underlying22 info41 rfl (by decide) (by omega) u144000 x144000_2 (⟨t178, t179, t180⟩ : S41) [.string t178, .string t179, .string t180] (fun k_ => k_ ≠ gb173) (fun _ => False) rfl (by first | (go_simp; done) | (go_simp; rfl)) ?aP (fun _ hk => hk.elim) ?aF ?aO ?aB ?aS ?aL ?_; (case aP => exact k41_mkM _ _ _ (⟨t178, t179, t180⟩ : S41)); (case aB => exact bl); (case aF => exact (fun k_ hk => Kd.freshB (g := gb173) (o := .cells #[.string t178, .string t179, .string t180] 41 (0, 0)) (by (with_reducible repeat (first | refine blk_drewN ?_ _ | refine blk_drew ?_ | refine blk_alloc ?_ _)); refine blk_put (cs := #[.string t178, .string t179, .string (⟨#[]⟩ : ByteArray)]) ?_ 2 _ rfl; (with_reducible repeat (first | refine blk_drewN ?_ _ | refine blk_drew ?_ | refine blk_alloc ?_ _)); refine blk_put (cs := #[.string t178, .string (⟨#[]⟩ : ByteArray), .string (⟨#[]⟩ : ByteArray)]) ?_ 1 _ rfl; (with_reducible repeat (first | refine blk_drewN ?_ _ | refine blk_drew ?_ | refine blk_alloc ?_ _)); refine blk_put (cs := #[.string (⟨#[]⟩ : ByteArray), .string (⟨#[]⟩ : ByteArray), .string (⟨#[]⟩ : ByteArray)]) ?_ 0 _ rfl; (with_reducible repeat (first | refine blk_drewN ?_ _ | refine blk_drew ?_ | refine blk_alloc ?_ _)); exact BK173.out) k_ hk)); (case aO => exact (by (with_reducible repeat (first | apply Kd.R_alloc | apply Kd.R_drewN | apply Kd.R_drew)); exact Kd.R_mono (Kd.R_far (p := ⟨gb173, 2, none⟩) (Kd.R_far (p := ⟨gb173, 1, none⟩) (Kd.R_far (p := ⟨gb173, 0, none⟩) (Kd.R_mono HO_144000.out (fun k_ hk => (⟨hk, hk.2⟩ : _ ∧ k_ ≠ gb173))) (fun _ hk => hk.2) (.string t178)) (fun _ hk => hk.2) (.string t179)) (fun _ hk => hk.2) (.string t180)) (fun _ hk => hk.1.2))); (case aS => exact (below_size bl)); (case aL => have := LMc76.out; omega); intro v183 w87 ho hb hg hat; rw [← Ny182.out] at ho; have n0_ := Aside0.mk (Kd.Q_over' (by (with_reducible repeat (first | apply Kd.Q_alloc | apply Kd.Q_drewN | apply Kd.Q_drew)); exact (Kd.Q_mono (Kd.Q_far (p := ⟨gb173, 2, none⟩) (Kd.Q_far (p := ⟨gb173, 1, none⟩) (Kd.Q_far (p := ⟨gb173, 0, none⟩) (Kd.Q_types HO_4.out BK173.out (by decide)) (fun _ hk => hk.2) (.string t178)) (fun _ hk => hk.2) (.string t179)) (fun _ hk => hk.2) (.string t180)) (fun _ h_ => h_.1))) (Kd.R_typed (by (with_reducible repeat (first | apply Kd.R_alloc | apply Kd.R_drewN | apply Kd.R_drew)); exact (Kd.R_mono (Kd.R_far (p := ⟨gb173, 2, none⟩) (Kd.R_far (p := ⟨gb173, 1, none⟩) (Kd.R_far (p := ⟨gb173, 0, none⟩) (Kd.R_mono HO_144000.out (fun k_ hk => (⟨hk, hk.2⟩ : _ ∧ k_ ≠ gb173))) (fun _ hk => hk.2) (.string t178)) (fun _ hk => hk.2) (.string t179)) (fun _ hk => hk.2) (.string t180)) (fun _ h_ => h_.1)))) (by decide) hg); have n1_ := Aside0.mk (blk_grown (g := gb137) (o := .cells #[.slice none 0 0, .string (⟨#[]⟩ : ByteArray), .bool false] 24 (0, 0)) (bk BK137.out) hg (Kd.R_ne HO_144000.out BK137.out (by decide))); have n2_ := Aside0.mk (blk_grown (g := gb143) (o := .cells #[u144000, .string x144001_7, .bool (decide (t142 < 0))] 24 (0, 0)) (bk BK143.out) hg (Kd.R_ne HO_144000.out BK143.out (by decide))); have n3_ := Aside0.mk (blk_grown (g := gb173) (o := .cells #[.string t178, .string t179, .string t180] 41 (0, 0)) (by (with_reducible repeat (first | refine blk_drewN ?_ _ | refine blk_drew ?_ | refine blk_alloc ?_ _)); refine blk_put (cs := #[.string t178, .string t179, .string (⟨#[]⟩ : ByteArray)]) ?_ 2 _ rfl; (with_reducible repeat (first | refine blk_drewN ?_ _ | refine blk_drew ?_ | refine blk_alloc ?_ _)); refine blk_put (cs := #[.string t178, .string (⟨#[]⟩ : ByteArray), .string (⟨#[]⟩ : ByteArray)]) ?_ 1 _ rfl; (with_reducible repeat (first | refine blk_drewN ?_ _ | refine blk_drew ?_ | refine blk_alloc ?_ _)); refine blk_put (cs := #[.string (⟨#[]⟩ : ByteArray), .string (⟨#[]⟩ : ByteArray), .string (⟨#[]⟩ : ByteArray)]) ?_ 0 _ rfl; (with_reducible repeat (first | refine blk_drewN ?_ _ | refine blk_drew ?_ | refine blk_alloc ?_ _)); exact BK173.out) hg (Kd.R_away HO_144000.out (fun _ hk => hk.2))); have n4_ := Aside0.mk (hb); have n5_ := Aside0.mk ((show Kd.C Kd.string w87 Ao78 y174.length y174 from by rw [Ny174.out]; exact Kd.C_take (m := (x10_4 : Int).toNat) ((Kd.Q_reads' (Kd.Q_over' (by (with_reducible repeat (first | apply Kd.Q_alloc | apply Kd.Q_drewN | apply Kd.Q_drew)); exact (Kd.Q_mono (Kd.Q_far (p := ⟨gb173, 2, none⟩) (Kd.Q_far (p := ⟨gb173, 1, none⟩) (Kd.Q_far (p := ⟨gb173, 0, none⟩) (Kd.Q_types HO_4.out BK173.out (by decide)) (fun _ hk => hk.2) (.string t178)) (fun _ hk => hk.2) (.string t179)) (fun _ hk => hk.2) (.string t180)) (fun _ h_ => h_.1))) (Kd.R_typed (by (with_reducible repeat (first | apply Kd.R_alloc | apply Kd.R_drewN | apply Kd.R_drew)); exact (Kd.R_mono (Kd.R_far (p := ⟨gb173, 2, none⟩) (Kd.R_far (p := ⟨gb173, 1, none⟩) (Kd.R_far (p := ⟨gb173, 0, none⟩) (Kd.R_mono HO_144000.out (fun k_ hk => (⟨hk, hk.2⟩ : _ ∧ k_ ≠ gb173))) (fun _ hk => hk.2) (.string t178)) (fun _ hk => hk.2) (.string t179)) (fun _ hk => hk.2) (.string t180)) (fun _ h_ => h_.1)))) (by decide) hg)).2.2) KL80.out)); have n6_ := Aside0.mk (ho); clear HO_4; clear BK137; clear BK143; clear BK173; clear HB; clear HR177; clear HO_144000; have HO_4 := n0_; have BK137 := n1_; have BK143 := n2_; have BK173 := n3_; have HB := n4_; have HR177 := n5_; have HO184 := n6_; clear n0_ n1_ n2_ n3_ n4_ n5_ n6_; clear ho hb hg hat; obtain ⟨Ao88, co88, eo88⟩ := Kd.R_slice HO184.out; subst eo88; have hcz89_0 : w87.cell? ⟨gb143, 0, none⟩ = some (u144000) := (blk_cell BK143.out 0).trans rfl; have hcz89_1 : w87.cell? ⟨gb143, 1, none⟩ = some (.string x144001_7) := (blk_cell BK143.out 1).trans rfl; have hcz89_2 : w87.cell? ⟨gb143, 2, none⟩ = some (.bool (decide (t142 < 0))) := (blk_cell BK143.out 2).trans rfl; have hfz89_0 := blk_frozen BK143.out 0; have hfz89_1 := blk_frozen BK143.out 1; have hfz89_2 := blk_frozen BK143.out 2) | ((with_reducible refine gate_store (t := 22) (p := 80) rfl ?_); refine store_event (t := 22) (p := 80) (v := ?vo_w90) (w1 := (w87.setCell ⟨gb143, 0, none⟩ (.slice Ao88 y182.length co88))) ?hg ?ho ?hn ?hr ?_; (case ho => rfl); (case hg => rfl); (case hn => rfl); (case hr => first | (go_simp; done) | (go_simp; rfl)); intro w90 hw; have n0_ : Aside0 (Kd.Q Kd.string 9 w90 w.heap.size (fun _ => True) (.slice Ao78 x4_2.length co78) x4_2) := ⟨(by rw [hw]; exact (by (with_reducible repeat (first | apply Kd.Q_alloc | apply Kd.Q_drewN | apply Kd.Q_drew)); exact Kd.Q_mono (Kd.Q_far (p := ⟨gb143, 0, none⟩) (Kd.Q_types HO_4.out BK143.out (by decide)) (fun _ hk => hk.2) (.slice Ao88 y182.length co88)) (fun _ hk => trivial)))⟩; have n1_ : Aside0 (Kd.R k41 41 w90 w.heap.size (fun k_ => k_ ≠ gb173) (.slice Ao88 y182.length co88) y182) := ⟨(by rw [hw]; exact (by (with_reducible repeat (first | apply Kd.R_alloc | apply Kd.R_drewN | apply Kd.R_drew)); exact Kd.R_mono (Kd.R_far (p := ⟨gb143, 0, none⟩) (Kd.R_types HO184.out BK143.out (by decide)) (fun _ hk => hk.2) (.slice Ao88 y182.length co88)) (fun _ hk => hk.1)))⟩; have n2_ : Aside0 (w90.heap[gb137]? = some (.cells #[.slice none 0 0, .string (⟨#[]⟩ : ByteArray), .bool false] 24 (0, 0))) := ⟨(by rw [hw]; exact (bk BK137.out))⟩; have n3_ : Aside0 (w90.heap[gb143]? = some (.cells #[.slice Ao88 y182.length co88, .string x144001_7, .bool (decide (t142 < 0))] 24 (0, 0))) := ⟨(by rw [hw]; exact (by (with_reducible repeat (first | refine blk_drewN ?_ _ | refine blk_drew ?_ | refine blk_alloc ?_ _)); refine blk_put (cs := #[u144000, .string x144001_7, .bool (decide (t142 < 0))]) ?_ 0 _ rfl; (with_reducible repeat (first | refine blk_drewN ?_ _ | refine blk_drew ?_ | refine blk_alloc ?_ _)); exact BK143.out))⟩; have n4_ : Aside0 (w90.heap[gb173]? = some (.cells #[.string t178, .string t179, .string t180] 41 (0, 0))) := ⟨(by rw [hw]; exact (bk BK173.out))⟩; have n5_ : Aside0 (Below w.heap.size w w90) := ⟨(by rw [hw]; exact bl)⟩; clear hw; clear HO_4; clear HO184; clear BK137; clear BK143; clear BK173; clear HB; have HO_4 := n0_; have HO184 := n1_; have BK137 := n2_; have BK143 := n3_; have BK173 := n4_; have HB := n5_; clear n0_ n1_ n2_ n3_ n4_ n5_; have q91 : (x10_4 : Int) ≤ ((x4_2.length : Int) : Int) := od; obtain ⟨i091, hi091, _, hsz91, _⟩ := info_parts info9; have hcut91 := cut_from (P := Tryd.prog) 37 9 .i64 Tryd.underlying37 hi091 1 hsz91 Ao78 x4_2.length co78 x10_4 (od) q91; have hr91 := Kd.Q_drop (k := (x10_4 : Int).toNat) HO_4.out (by omega); obtain ⟨A91, hA91⟩ : ∃ A1, A1 = (if co78 = (x10_4 : Int).toNat then Ao78 else (Ao78 : Option Addr).map (·.add ((x10_4 : Int).toNat * 1))) := ⟨_, rfl⟩; obtain ⟨c91, hc91⟩ : ∃ c1, c1 = co78 - (x10_4 : Int).toNat := ⟨_, rfl⟩; have hy91 : y185.length = x4_2.length - (x10_4 : Int).toNat := (by rw [Ny185.out, List.length_drop]); rw [← Ny185.out] at hr91; rw [← hy91, ← hA91, ← hc91] at hcut91; replace hr91 : Kd.Q Kd.string 9 w90 w.heap.size (fun _ => True) (.slice A91 y185.length c91) y185 := (by rw [hA91, hc91, hy91]; exact hr91); have HE91 : Aside0 ((Value.slice A91 y185.length c91).ownBlock = (.slice Ao78 x4_2.length co78 : Value).ownBlock) := ⟨by rw [hA91]; split <;> (cases (Ao78 : Option Addr) <;> first | rfl | (simp only [Option.map_some, Value.ownBlock, add_block]; done))⟩; clear hy91 hi091 hsz91 HO_4 hA91 hc91; have HO187 := Aside0.mk hr91; clear hr91; replace q91 := eq_true q91))
                go_roundg k4
                case measure => have := HJ7.out; have := HK2.out; have := HJ32.out; have := HK4.out; omega
                case rel => exact ⟨(y185), (true), (y182), (.slice Ao88 y182.length co88), (by first | rfl | (simp; done) | (simp [*]; done)), H', ⟨by have := HJ7.out; have := HK2.out; have := HJ32.out; have := HK4.out; omega⟩, ⟨by (with_reducible repeat (first | apply Kd.Q_alloc | apply Kd.Q_drewN | apply Kd.Q_drew)); exact HO187.out⟩, ⟨by (with_reducible repeat (first | apply Kd.R_alloc | apply Kd.R_drewN | apply Kd.R_drew)); exact Kd.R_mono HO184.out (fun _ hk => trivial)⟩, ⟨by (with_reducible repeat (first | refine blk_drewN ?_ _ | refine blk_drew ?_ | refine blk_alloc ?_ _)); exact BK137.out⟩, ⟨by (with_reducible repeat (first | refine blk_drewN ?_ _ | refine blk_drew ?_ | refine blk_alloc ?_ _)); exact BK143.out⟩, ⟨by repeat (first | (with_reducible first | exact HB.out | apply below_alloc | apply pw_below_drewN | apply below_drew1 | refine below_set ?_ GE137.out | refine below_set ?_ GE143.out | refine below_set ?_ GE173.out) | exact HB.out)⟩⟩
               ·rw [if_neg c76] at H
                exact absurd H (by simp)
              ·replace c75 := Bool.eq_false_iff.mpr c75
               subst c75
               have H1 : (head_Parse.l1 k4 (x4_2.drop (x10_4 : Int).toNat) false x144000_2 x144001_7 (decide (t142 < 0))) = some (r1, r2, r3, r4) := by rw [if_neg (show ¬ (false = true) by decide)] at H; exact H
               clear H
               have H := H1
               clear H1
               have c92b0 := eq_true (od : x10_4 ≤ (x4_2.length : Int))
               obtain ⟨y188, hy188⟩ : ∃ y_ : List ByteArray, y_ = (x4_2.drop (x10_4 : Int).toNat) := ⟨_, rfl⟩
               replace H : (head_Parse.l1 k4 y188 false x144000_2 x144001_7 (decide (t142 < 0))) = some (r1, r2, r3, r4) := by first | (rw [hy188]; with_reducible exact H) | (have H2_ := (Option.bind_some _ _).symm.trans H; rw [hy188]; with_reducible exact H2_) | (have H2_ := (Option.bind_some _ _).symm.trans H; with_reducible exact H2_) | with_reducible exact H | (rw [hy188]; exact H) | exact H
               have Ny188 := Aside0.mk hy188
               clear hy188
               have H' := Aside0.mk H
               clear H
               obtain ⟨Ao93, co93, eo93, _⟩ := Kd.Q_slice HO_4.out
               subst eo93
               go_wp2_with (first | ((with_reducible refine gate_dst (N := 11) rfl ?_); (try (refine gate_guard (by rfl) ?_; dsimp only)); refine box_event ?hg (N := 11) ?hd (cs := #[.string (⟨#[]⟩ : ByteArray), .string (⟨#[]⟩ : ByteArray), .string (⟨#[]⟩ : ByteArray)]) (t := 41) ?hr ?_; (case hd => rfl); (case hg => rfl); (case hr => first | (go_simp; done) | (go_simp; rfl)); intro gb173 hg w94 hbox hb; have n0_ := Aside0.mk (Kd.Q_below (by (with_reducible repeat (first | apply Kd.Q_alloc | apply Kd.Q_drewN | apply Kd.Q_drew)); exact HO_4.out) hb); have n1_ := Aside0.mk (Kd.R_below (Kd.R_elderB (kr HO_144000.out) gb173 (Nat.le_of_eq hg.symm)) hb); have n2_ := Aside0.mk (kb BK137.out hb); have n3_ := Aside0.mk (kb BK143.out hb); have n4_ := Aside0.mk (below_step bl hb); have n5_ := Aside0.mk (hbox); have n6_ := Aside0.mk ((by rw [hg]; exact (below_size bl) : w.heap.size ≤ gb173)); have n7_ := Aside0.mk ((by rw [hg]; exact (below_size bl) : w.heap.size ≤ gb173)); have n8_ := Aside0.mk ((by rw [hg]; exact Nat.ne_of_lt (blk_lt (bk BK137.out)) : gb137 ≠ gb173)); have n9_ := Aside0.mk ((by rw [hg]; exact Nat.ne_of_gt (blk_lt (bk BK137.out)) : gb173 ≠ gb137)); have n10_ := Aside0.mk ((by rw [hg]; exact Nat.ne_of_lt (blk_lt (bk BK143.out)) : gb143 ≠ gb173)); have n11_ := Aside0.mk ((by rw [hg]; exact Nat.ne_of_gt (blk_lt (bk BK143.out)) : gb173 ≠ gb143)); clear HO_4; clear HO_144000; clear BK137; clear BK143; clear HB; have HO_4 := n0_; have HO_144000 := n1_; have BK137 := n2_; have BK143 := n3_; have HB := n4_; have BK173 := n5_; have GW173 := n6_; have GE173 := n7_; have NB137_173 := n8_; have NB173_137 := n9_; have NB143_173 := n10_; have NB173_143 := n11_; clear n0_ n1_ n2_ n3_ n4_ n5_ n6_ n7_ n8_ n9_ n10_ n11_; clear hb hbox hg; have q95 : (x10_4 : Int) ≤ ((x4_2.length : Int) : Int) := od; obtain ⟨i095, hi095, _, hsz95, _⟩ := info_parts info9; have hroom95 : x4_2.length ≤ co93 := (Kd.Q_reads' HO_4.out).2.1; have hC95 : Kd.C Kd.string _ Ao93 x4_2.length x4_2 := (Kd.Q_reads' HO_4.out).2.2; have hcut95 := cut_to (P := Tryd.prog) 37 9 .i64 Tryd.underlying37 hi095 Ao93 x4_2.length co93 x10_4 (od) q95 hroom95; have hr95 := Kd.C_take (m := (x10_4 : Int).toNat) hC95 (by omega); have hy95 : y174.length = (x10_4 : Int).toNat := (by rw [Ny174.out, List.length_take]; omega); rw [← Ny174.out] at hr95; rw [← hy95] at hcut95; have HR177 := Aside0.mk hr95; have HC177 := Aside0.mk (show y174.length ≤ co93 from by omega); clear hr95 hC95 hroom95 hi095 hsz95; have KY95 := Aside0.mk hy95; clear hy95; have KL95 := Aside0.mk (show (x10_4 : Int).toNat ≤ x4_2.length from by omega); replace q95 := eq_true q95) | ((with_reducible refine gate_callee (f := 42) rfl ?_); refine goesL_ (some 71) rfl rfl Tryd.func42 (by kernel_rfl) rfl #[.slice Ao93 y174.length co93] rfl ml ?_; (with_reducible refine (head_field.calls k4 _ _ y174 t178 t179 t180 false _ ?side1 ?side2 ?side3 A74.out).mono ?_); (case side1 => repeat (first | exact (by repeat (first | (with_reducible exact HR177.out) | (with_reducible refine Kd.C_alloc ?_ _) | (with_reducible refine Kd.C_drewN ?_ _) | (with_reducible refine Kd.C_drew ?_) | exact HR177.out)) | (with_reducible refine Kd.C_alloc ?_ _) | (with_reducible refine Kd.C_drewN ?_ _) | (with_reducible refine Kd.C_drew ?_))); (case side2 => exact HC177.out); (case side3 => exact Glob.below HG.out bl); rintro e w96 ⟨rfl, hb⟩; refine ⟨_, rfl, ?_⟩; have n0_ := Aside0.mk (Kd.Q_below (by (with_reducible repeat (first | apply Kd.Q_alloc | apply Kd.Q_drewN | apply Kd.Q_drew)); exact HO_4.out) hb); have n1_ := Aside0.mk (Kd.R_below (kr HO_144000.out) hb); have n2_ := Aside0.mk (kb BK137.out hb); have n3_ := Aside0.mk (kb BK143.out hb); have n4_ := Aside0.mk (kb BK173.out hb); have n5_ := Aside0.mk (Kd.C_below (by repeat (first | (with_reducible exact HR177.out) | (with_reducible refine Kd.C_alloc ?_ _) | (with_reducible refine Kd.C_drewN ?_ _) | (with_reducible refine Kd.C_drew ?_) | exact HR177.out)) hb); have n6_ := Aside0.mk (below_step bl hb); clear HO_4; clear HO_144000; clear BK137; clear BK143; clear BK173; clear HR177; clear HB; have HO_4 := n0_; have HO_144000 := n1_; have BK137 := n2_; have BK143 := n3_; have BK173 := n4_; have HR177 := n5_; have HB := n6_; clear n0_ n1_ n2_ n3_ n4_ n5_ n6_; (try clear hb); (try clear hb2); (try clear hk); (try clear hi); have hnb97 := NB173_137.out; have hnc97 := NB137_173.out; have hnb98 := NB173_143.out; have hnc98 := NB143_173.out; have hcz99_0 : w96.cell? ⟨gb173, 0, none⟩ = some (.string (⟨#[]⟩ : ByteArray)) := (blk_cell BK173.out 0).trans rfl; have hcz99_1 : w96.cell? ⟨gb173, 1, none⟩ = some (.string (⟨#[]⟩ : ByteArray)) := (blk_cell BK173.out 1).trans rfl; have hcz99_2 : w96.cell? ⟨gb173, 2, none⟩ = some (.string (⟨#[]⟩ : ByteArray)) := (blk_cell BK173.out 2).trans rfl; have hfz99_0 := blk_frozen BK173.out 0; have hfz99_1 := blk_frozen BK173.out 1; have hfz99_2 := blk_frozen BK173.out 2) | ((with_reducible refine gate_store (t := 41) (p := 11) rfl ?_); refine store_event (t := 41) (p := 11) (v := ?vo_w100) (w1 := (((w96.setCell ⟨gb173, 0, none⟩ (.string t178)).setCell ⟨gb173, 1, none⟩ (.string t179)).setCell ⟨gb173, 2, none⟩ (.string t180))) ?hg ?ho ?hn ?hr ?_; (case ho => rfl); (case hg => rfl); (case hn => rfl); (case hr => first | (go_simp; done) | (go_simp; rfl)); intro w100 hw; have n0_ : Aside0 (Kd.Q Kd.string 9 w100 w.heap.size (fun _ => True) (.slice Ao93 x4_2.length co93) x4_2) := ⟨(by rw [hw]; exact (by (with_reducible repeat (first | apply Kd.Q_alloc | apply Kd.Q_drewN | apply Kd.Q_drew)); exact Kd.Q_mono (Kd.Q_far (p := ⟨gb173, 2, none⟩) (Kd.Q_far (p := ⟨gb173, 1, none⟩) (Kd.Q_far (p := ⟨gb173, 0, none⟩) (Kd.Q_types HO_4.out BK173.out (by decide)) (fun _ hk => hk.2) (.string t178)) (fun _ hk => hk.2) (.string t179)) (fun _ hk => hk.2) (.string t180)) (fun _ hk => trivial)))⟩; have n1_ : Aside0 (Kd.R k41 41 w100 w.heap.size (fun k_ => k_ ≠ gb173) u144000 x144000_2) := ⟨(by rw [hw]; exact (by (with_reducible repeat (first | apply Kd.R_alloc | apply Kd.R_drewN | apply Kd.R_drew)); exact Kd.R_mono (Kd.R_far (p := ⟨gb173, 2, none⟩) (Kd.R_far (p := ⟨gb173, 1, none⟩) (Kd.R_far (p := ⟨gb173, 0, none⟩) (Kd.R_mono HO_144000.out (fun k_ hk => (⟨hk, hk.2⟩ : _ ∧ k_ ≠ gb173))) (fun _ hk => hk.2) (.string t178)) (fun _ hk => hk.2) (.string t179)) (fun _ hk => hk.2) (.string t180)) (fun _ hk => hk.1.2)))⟩; have n2_ : Aside0 (w100.heap[gb137]? = some (.cells #[.slice none 0 0, .string (⟨#[]⟩ : ByteArray), .bool false] 24 (0, 0))) := ⟨(by rw [hw]; exact (bk BK137.out))⟩; have n3_ : Aside0 (w100.heap[gb143]? = some (.cells #[u144000, .string x144001_7, .bool (decide (t142 < 0))] 24 (0, 0))) := ⟨(by rw [hw]; exact (bk BK143.out))⟩; have n4_ : Aside0 (w100.heap[gb173]? = some (.cells #[.string t178, .string t179, .string t180] 41 (0, 0))) := ⟨(by rw [hw]; exact (by (with_reducible repeat (first | refine blk_drewN ?_ _ | refine blk_drew ?_ | refine blk_alloc ?_ _)); refine blk_put (cs := #[.string t178, .string t179, .string (⟨#[]⟩ : ByteArray)]) ?_ 2 _ rfl; (with_reducible repeat (first | refine blk_drewN ?_ _ | refine blk_drew ?_ | refine blk_alloc ?_ _)); refine blk_put (cs := #[.string t178, .string (⟨#[]⟩ : ByteArray), .string (⟨#[]⟩ : ByteArray)]) ?_ 1 _ rfl; (with_reducible repeat (first | refine blk_drewN ?_ _ | refine blk_drew ?_ | refine blk_alloc ?_ _)); refine blk_put (cs := #[.string (⟨#[]⟩ : ByteArray), .string (⟨#[]⟩ : ByteArray), .string (⟨#[]⟩ : ByteArray)]) ?_ 0 _ rfl; (with_reducible repeat (first | refine blk_drewN ?_ _ | refine blk_drew ?_ | refine blk_alloc ?_ _)); exact BK173.out))⟩; have n5_ : Aside0 (Below w.heap.size w w100) := ⟨(by rw [hw]; exact bl)⟩; clear hw; clear HO_4; clear HO_144000; clear BK137; clear BK143; clear BK173; clear HB; have HO_4 := n0_; have HO_144000 := n1_; have BK137 := n2_; have BK143 := n3_; have BK173 := n4_; have HB := n5_; clear n0_ n1_ n2_ n3_ n4_ n5_; have q101 : (x10_4 : Int) ≤ ((x4_2.length : Int) : Int) := od; obtain ⟨i0101, hi0101, _, hsz101, _⟩ := info_parts info9; have hcut101 := cut_from (P := Tryd.prog) 37 9 .i64 Tryd.underlying37 hi0101 1 hsz101 Ao93 x4_2.length co93 x10_4 (od) q101; have hr101 := Kd.Q_drop (k := (x10_4 : Int).toNat) HO_4.out (by omega); obtain ⟨A101, hA101⟩ : ∃ A1, A1 = (if co93 = (x10_4 : Int).toNat then Ao93 else (Ao93 : Option Addr).map (·.add ((x10_4 : Int).toNat * 1))) := ⟨_, rfl⟩; obtain ⟨c101, hc101⟩ : ∃ c1, c1 = co93 - (x10_4 : Int).toNat := ⟨_, rfl⟩; have hy101 : y188.length = x4_2.length - (x10_4 : Int).toNat := (by rw [Ny188.out, List.length_drop]); rw [← Ny188.out] at hr101; rw [← hy101, ← hA101, ← hc101] at hcut101; replace hr101 : Kd.Q Kd.string 9 w100 w.heap.size (fun _ => True) (.slice A101 y188.length c101) y188 := (by rw [hA101, hc101, hy101]; exact hr101); have HE101 : Aside0 ((Value.slice A101 y188.length c101).ownBlock = (.slice Ao93 x4_2.length co93 : Value).ownBlock) := ⟨by rw [hA101]; split <;> (cases (Ao93 : Option Addr) <;> first | rfl | (simp only [Option.map_some, Value.ownBlock, add_block]; done))⟩; clear hy101 hi0101 hsz101 HO_4 hA101 hc101; have HO190 := Aside0.mk hr101; clear hr101; replace q101 := eq_true q101))
               go_roundg k4
               case measure => have := HJ7.out; have := HK2.out; have := HJ32.out; have := HK4.out; omega
               case rel => exact ⟨(y188), (false), (x144000_2), (u144000), (by first | rfl | (simp; done) | (simp [*]; done)), H', ⟨by have := HJ7.out; have := HK2.out; have := HJ32.out; have := HK4.out; omega⟩, ⟨by (with_reducible repeat (first | apply Kd.Q_alloc | apply Kd.Q_drewN | apply Kd.Q_drew)); exact HO190.out⟩, ⟨by (with_reducible repeat (first | apply Kd.R_alloc | apply Kd.R_drewN | apply Kd.R_drew)); exact Kd.R_mono HO_144000.out (fun _ hk => trivial)⟩, ⟨by (with_reducible repeat (first | refine blk_drewN ?_ _ | refine blk_drew ?_ | refine blk_alloc ?_ _)); exact BK137.out⟩, ⟨by (with_reducible repeat (first | refine blk_drewN ?_ _ | refine blk_drew ?_ | refine blk_alloc ?_ _)); exact BK143.out⟩, ⟨by repeat (first | (with_reducible first | exact HB.out | apply below_alloc | apply pw_below_drewN | apply below_drew1 | refine below_set ?_ GE137.out | refine below_set ?_ GE143.out | refine below_set ?_ GE173.out) | exact HB.out)⟩⟩
             ·rw [if_neg c73] at H
              exact absurd H (by simp)
            ·rw [if_neg c72] at H
             exact absurd H (by simp)
        ·replace c36 := Bool.eq_false_iff.mpr c36
         subst c36
         have H1 : (if x5_2 = true then (some (x144000_2, x144001_7, (decide (t142 < 0)), 0)) else (some (([] : List (S41)), (⟨#[]⟩ : ByteArray), false, 5))) = some (r1, r2, r3, r4) := by rw [if_neg (show ¬ (false = true) by decide)] at H; exact H
         clear H
         have H := H1
         clear H1
         by_cases c102 : x5_2 = true
         ·subst c102
          have H1 : (some (x144000_2, x144001_7, (decide (t142 < 0)), 0)) = some (r1, r2, r3, r4) := by rw [if_pos rfl] at H; exact H
          clear H
          have H := H1
          clear H1
          simp only [Option.some.injEq, Prod.mk.injEq] at H
          obtain ⟨rfl, rfl, rfl, rfl⟩ := H
          have hnb103 := NB143_137.out
          have hnc103 := NB137_143.out
          have hcz104_0 : wc.cell? ⟨gb143, 0, none⟩ = some (u144000) := (blk_cell BK143.out 0).trans rfl
          have hcz104_1 : wc.cell? ⟨gb143, 1, none⟩ = some (.string x144001_7) := (blk_cell BK143.out 1).trans rfl
          have hcz104_2 : wc.cell? ⟨gb143, 2, none⟩ = some (.bool (decide (t142 < 0))) := (blk_cell BK143.out 2).trans rfl
          have hfz104_0 := blk_frozen BK143.out 0
          have hfz104_1 := blk_frozen BK143.out 1
          have hfz104_2 := blk_frozen BK143.out 2
          obtain ⟨Ao105, co105, eo105⟩ := Kd.R_slice HO_144000.out
          subst eo105
          have hcz106_0 : wc.cell? ⟨gb137, 0, none⟩ = some (.slice none 0 0) := (blk_cell BK137.out 0).trans rfl
          have hcz106_1 : wc.cell? ⟨gb137, 1, none⟩ = some (.string (⟨#[]⟩ : ByteArray)) := (blk_cell BK137.out 1).trans rfl
          have hcz106_2 : wc.cell? ⟨gb137, 2, none⟩ = some (.bool false) := (blk_cell BK137.out 2).trans rfl
          have hfz106_0 := blk_frozen BK137.out 0
          have hfz106_1 := blk_frozen BK137.out 1
          have hfz106_2 := blk_frozen BK137.out 2
          go_wp2_with (first | ((with_reducible refine gate_store (t := 24) (p := 2) rfl ?_); refine store_event (t := 24) (p := 2) (v := ?vo_w107) (w1 := (((wc.setCell ⟨gb137, 0, none⟩ (.slice Ao105 x144000_2.length co105)).setCell ⟨gb137, 1, none⟩ (.string x144001_7)).setCell ⟨gb137, 2, none⟩ (.bool (decide (t142 < 0))))) ?hg ?ho ?hn ?hr ?_; (case ho => rfl); (case hg => rfl); (case hn => rfl); (case hr => first | (go_simp; done) | (go_simp; rfl)); intro w107 hw; have n0_ : Aside0 (Kd.Q Kd.string 9 w107 w.heap.size (fun _ => True) u4 x4_2) := ⟨(by rw [hw]; exact (by (with_reducible repeat (first | apply Kd.Q_alloc | apply Kd.Q_drewN | apply Kd.Q_drew)); exact Kd.Q_mono (Kd.Q_far (p := ⟨gb137, 2, none⟩) (Kd.Q_far (p := ⟨gb137, 1, none⟩) (Kd.Q_far (p := ⟨gb137, 0, none⟩) (Kd.Q_types HO_4.out BK137.out (by decide)) (fun _ hk => hk.2) (.slice Ao105 x144000_2.length co105)) (fun _ hk => hk.2) (.string x144001_7)) (fun _ hk => hk.2) (.bool (decide (t142 < 0)))) (fun _ hk => trivial)))⟩; have n1_ : Aside0 (Kd.R k41 41 w107 w.heap.size (fun _ => True) (.slice Ao105 x144000_2.length co105) x144000_2) := ⟨(by rw [hw]; exact (by (with_reducible repeat (first | apply Kd.R_alloc | apply Kd.R_drewN | apply Kd.R_drew)); exact Kd.R_mono (Kd.R_far (p := ⟨gb137, 2, none⟩) (Kd.R_far (p := ⟨gb137, 1, none⟩) (Kd.R_far (p := ⟨gb137, 0, none⟩) (Kd.R_types HO_144000.out BK137.out (by decide)) (fun _ hk => hk.2) (.slice Ao105 x144000_2.length co105)) (fun _ hk => hk.2) (.string x144001_7)) (fun _ hk => hk.2) (.bool (decide (t142 < 0)))) (fun _ hk => trivial)))⟩; have n2_ : Aside0 (w107.heap[gb137]? = some (.cells #[.slice Ao105 x144000_2.length co105, .string x144001_7, .bool (decide (t142 < 0))] 24 (0, 0))) := ⟨(by rw [hw]; exact (by (with_reducible repeat (first | refine blk_drewN ?_ _ | refine blk_drew ?_ | refine blk_alloc ?_ _)); refine blk_put (cs := #[.slice Ao105 x144000_2.length co105, .string x144001_7, .bool false]) ?_ 2 _ rfl; (with_reducible repeat (first | refine blk_drewN ?_ _ | refine blk_drew ?_ | refine blk_alloc ?_ _)); refine blk_put (cs := #[.slice Ao105 x144000_2.length co105, .string (⟨#[]⟩ : ByteArray), .bool false]) ?_ 1 _ rfl; (with_reducible repeat (first | refine blk_drewN ?_ _ | refine blk_drew ?_ | refine blk_alloc ?_ _)); refine blk_put (cs := #[.slice none 0 0, .string (⟨#[]⟩ : ByteArray), .bool false]) ?_ 0 _ rfl; (with_reducible repeat (first | refine blk_drewN ?_ _ | refine blk_drew ?_ | refine blk_alloc ?_ _)); exact BK137.out))⟩; have n3_ : Aside0 (w107.heap[gb143]? = some (.cells #[.slice Ao105 x144000_2.length co105, .string x144001_7, .bool (decide (t142 < 0))] 24 (0, 0))) := ⟨(by rw [hw]; exact (bk BK143.out))⟩; have n4_ : Aside0 (Below w.heap.size w w107) := ⟨(by rw [hw]; exact bl)⟩; clear hw; clear HO_4; clear HO_144000; clear BK137; clear BK143; clear HB; have HO_4 := n0_; have HO_144000 := n1_; have BK137 := n2_; have BK143 := n3_; have HB := n4_; clear n0_ n1_ n2_ n3_ n4_))
          refine bodyPost_ret (results_ct rfl _ _ gb137 24 #[.slice Ao105 x144000_2.length co105, .string x144001_7, .bool (decide (t142 < 0))] (0, 0) _ rfl (bk BK137.out) Tryd.underlying24 rfl (by kernel_rfl)) rfl ?_
          exact ⟨_, by first | rfl | (simp [errW_none, errW_some] <;> rfl) | (simp [*, errW_none, errW_some] <;> rfl), by (with_reducible repeat (first | apply Kd.R_alloc | apply Kd.R_drewN | apply Kd.R_drew)); exact HO_144000.out, by repeat (first | (with_reducible first | exact HB.out | apply below_alloc | apply pw_below_drewN | apply below_drew1 | refine below_set ?_ GE137.out | refine below_set ?_ GE143.out) | exact HB.out)⟩
         ·replace c102 := Bool.eq_false_iff.mpr c102
          subst c102
          have H1 : (some (([] : List (S41)), (⟨#[]⟩ : ByteArray), false, 5)) = some (r1, r2, r3, r4) := by rw [if_neg (show ¬ (false = true) by decide)] at H; exact H
          clear H
          have H := H1
          clear H1
          simp only [Option.some.injEq, Prod.mk.injEq] at H
          obtain ⟨rfl, rfl, rfl, rfl⟩ := H
          have hnb108 := NB137_143.out
          have hnc108 := NB143_137.out
          have hcz109_0 : wc.cell? ⟨gb137, 0, none⟩ = some (.slice none 0 0) := (blk_cell BK137.out 0).trans rfl
          have hcz109_1 : wc.cell? ⟨gb137, 1, none⟩ = some (.string (⟨#[]⟩ : ByteArray)) := (blk_cell BK137.out 1).trans rfl
          have hcz109_2 : wc.cell? ⟨gb137, 2, none⟩ = some (.bool false) := (blk_cell BK137.out 2).trans rfl
          have hfz109_0 := blk_frozen BK137.out 0
          have hfz109_1 := blk_frozen BK137.out 1
          have hfz109_2 := blk_frozen BK137.out 2
          go_wp2_with (first | ((with_reducible refine gate_store (t := 24) (p := 2) rfl ?_); refine store_event (t := 24) (p := 2) (v := ?vo_w110) (w1 := (((wc.setCell ⟨gb137, 0, none⟩ (.slice none 0 0)).setCell ⟨gb137, 1, none⟩ (.string (⟨#[]⟩ : ByteArray))).setCell ⟨gb137, 2, none⟩ (.bool false))) ?hg ?ho ?hn ?hr ?_; (case ho => rfl); (case hg => rfl); (case hn => rfl); (case hr => first | (go_simp; done) | (go_simp; rfl)); intro w110 hw; have n0_ : Aside0 (Kd.Q Kd.string 9 w110 w.heap.size (fun _ => True) u4 x4_2) := ⟨(by rw [hw]; exact (by (with_reducible repeat (first | apply Kd.Q_alloc | apply Kd.Q_drewN | apply Kd.Q_drew)); exact Kd.Q_mono (Kd.Q_far (p := ⟨gb137, 2, none⟩) (Kd.Q_far (p := ⟨gb137, 1, none⟩) (Kd.Q_far (p := ⟨gb137, 0, none⟩) (Kd.Q_types HO_4.out BK137.out (by decide)) (fun _ hk => hk.2) (.slice none 0 0)) (fun _ hk => hk.2) (.string (⟨#[]⟩ : ByteArray))) (fun _ hk => hk.2) (.bool false)) (fun _ hk => trivial)))⟩; have n1_ : Aside0 (Kd.R k41 41 w110 w.heap.size (fun _ => True) u144000 x144000_2) := ⟨(by rw [hw]; exact (by (with_reducible repeat (first | apply Kd.R_alloc | apply Kd.R_drewN | apply Kd.R_drew)); exact Kd.R_mono (Kd.R_far (p := ⟨gb137, 2, none⟩) (Kd.R_far (p := ⟨gb137, 1, none⟩) (Kd.R_far (p := ⟨gb137, 0, none⟩) (Kd.R_types HO_144000.out BK137.out (by decide)) (fun _ hk => hk.2) (.slice none 0 0)) (fun _ hk => hk.2) (.string (⟨#[]⟩ : ByteArray))) (fun _ hk => hk.2) (.bool false)) (fun _ hk => trivial)))⟩; have n2_ : Aside0 (w110.heap[gb137]? = some (.cells #[.slice none 0 0, .string (⟨#[]⟩ : ByteArray), .bool false] 24 (0, 0))) := ⟨(by rw [hw]; exact (by (with_reducible repeat (first | refine blk_drewN ?_ _ | refine blk_drew ?_ | refine blk_alloc ?_ _)); refine blk_put (cs := #[.slice none 0 0, .string (⟨#[]⟩ : ByteArray), .bool false]) ?_ 2 _ rfl; (with_reducible repeat (first | refine blk_drewN ?_ _ | refine blk_drew ?_ | refine blk_alloc ?_ _)); refine blk_put (cs := #[.slice none 0 0, .string (⟨#[]⟩ : ByteArray), .bool false]) ?_ 1 _ rfl; (with_reducible repeat (first | refine blk_drewN ?_ _ | refine blk_drew ?_ | refine blk_alloc ?_ _)); refine blk_put (cs := #[.slice none 0 0, .string (⟨#[]⟩ : ByteArray), .bool false]) ?_ 0 _ rfl; (with_reducible repeat (first | refine blk_drewN ?_ _ | refine blk_drew ?_ | refine blk_alloc ?_ _)); exact BK137.out))⟩; have n3_ : Aside0 (w110.heap[gb143]? = some (.cells #[u144000, .string x144001_7, .bool (decide (t142 < 0))] 24 (0, 0))) := ⟨(by rw [hw]; exact (bk BK143.out))⟩; have n4_ : Aside0 (Below w.heap.size w w110) := ⟨(by rw [hw]; exact bl)⟩; clear hw; clear HO_4; clear HO_144000; clear BK137; clear BK143; clear HB; have HO_4 := n0_; have HO_144000 := n1_; have BK137 := n2_; have BK143 := n3_; have HB := n4_; clear n0_ n1_ n2_ n3_ n4_))
          refine bodyPost_ret (results_ct rfl _ _ gb137 24 #[.slice none 0 0, .string (⟨#[]⟩ : ByteArray), .bool false] (0, 0) _ rfl (bk BK137.out) Tryd.underlying24 rfl (by kernel_rfl)) rfl ?_
          exact ⟨_, by first | rfl | (simp [errW_none, errW_some] <;> rfl) | (simp [*, errW_none, errW_some] <;> rfl), by first | exact Kd.R_nil _ _ _ _ _ | exact Kd.N_nil _ _ _ _ _ | exact Kd.V_nil _ _ _ _ _ | exact Kd.Q_nil _ _ _ _ _ | exact Kd.S_nil _ _ _ _ _, by repeat (first | (with_reducible first | exact HB.out | apply below_alloc | apply pw_below_drewN | apply below_drew1 | refine below_set ?_ GE137.out | refine below_set ?_ GE143.out) | exact HB.out)⟩

end Go.Proofs.YtdciiahlakgikaaDoor.Q
end
section
namespace Go.Proofs.YtdciiahlakgikaaDoor.Q
open Go.RowKit Go.Proofs.YtdciiahlakgikaaDoorW.PrintWords Go.Proofs.YtdciiahlakgikaaDoorW.PrintLast Go.Proofs.YtdciiahlakgikaaDoorW.PrintMore
attribute [local go_sem] max2_int min2_int max_two min_two max_three min_three max_four min_four   -- for this text's walks alone
set_option linter.unusedVariables false
set_option linter.unusedSimpArgs false

attribute [local go_sem high] eqA41
/-! ### postriderlaw07_wakes: function 13 -/
def postriderlaw07_wakes.f (k : Nat)  : Option (Bool) := (head_Parse.f k (⟨#[84, 111, 58, 32, 97, 13, 10, 98, 58, 32, 32, 99, 44, 13, 10, 32, 100, 13, 10, 13, 10, 120, 13, 10]⟩ : ByteArray)).bind fun bt191 => (if bt191.2.2.2 = 0 then (if (bt191.1.length : Int) = 2 then (if 0 < (bt191.1.length : Int) then (if ((rd_T41 bt191.1 0).f1).toList = ([97] : List UInt8) then (if 1 < (bt191.1.length : Int) then (if ((((rd_T41 bt191.1 1).f0).toList) == ([98] : List UInt8) && ((((rd_T41 bt191.1 1).f1).toList) == ([99, 44, 32, 100] : List UInt8) && ((((rd_T41 bt191.1 1).f2).toList) == ([98, 58, 32, 32, 99, 44, 13, 10, 32, 100, 13, 10] : List UInt8)))) = true then (if bt191.2.1.toList = ([120, 13, 10] : List UInt8) then (some (!bt191.2.2.1)) else (some false)) else (some false)) else (none)) else (some false)) else (none)) else (some false)) else (some false))
theorem postriderlaw07_wakes.mono : ∀ k, LeO (postriderlaw07_wakes.f k ) (postriderlaw07_wakes.f (k + 1) ) := by
 intro  k
 unfold postriderlaw07_wakes.f
 repeat' first
   | (with_reducible exact head_Parse.mono _ _)
   | (with_reducible exact LeO.refl _)
   | (with_reducible exact LeO.none _)
   | (with_reducible refine LeO.ite ?_ ?_)
   | (with_reducible refine LeO.bind ?_ (fun _ => ?_))
   | exact head_Parse.mono _ _
   | exact LeO.none _
   | refine LeO.ite ?_ ?_
   | refine LeO.bind ?_ (fun _ => ?_)
set_option maxHeartbeats 8000000 in
set_option maxRecDepth 100000 in
theorem postriderlaw07_wakes.calls (k : Nat)  (r : Bool) (w : World) (hG : Glob w) (h : postriderlaw07_wakes.f k  = some r) :
  Calls Tryd.prog 13 #[] w fun e w' => e = .returned (.bool r) ∧ Below w.heap.size w w' := by
 have hu24 := Tryd.underlying24
 have hu41 := Tryd.underlying41
 have HB := Aside0.mk (Below.refl w.heap.size w)
 have HG := Aside0.mk hG
 clear hG
 have H : ((head_Parse.f k (⟨#[84, 111, 58, 32, 97, 13, 10, 98, 58, 32, 32, 99, 44, 13, 10, 32, 100, 13, 10, 13, 10, 120, 13, 10]⟩ : ByteArray)).bind fun bt191 => (if bt191.2.2.2 = 0 then (if (bt191.1.length : Int) = 2 then (if 0 < (bt191.1.length : Int) then (if ((rd_T41 bt191.1 0).f1).toList = ([97] : List UInt8) then (if 1 < (bt191.1.length : Int) then (if ((((rd_T41 bt191.1 1).f0).toList) == ([98] : List UInt8) && ((((rd_T41 bt191.1 1).f1).toList) == ([99, 44, 32, 100] : List UInt8) && ((((rd_T41 bt191.1 1).f2).toList) == ([98, 58, 32, 32, 99, 44, 13, 10, 32, 100, 13, 10] : List UInt8)))) = true then (if bt191.2.1.toList = ([120, 13, 10] : List UInt8) then (some (!bt191.2.2.1)) else (some false)) else (some false)) else (none)) else (some false)) else (none)) else (some false)) else (some false))) = some r := h
 clear h
 replace H := Option.bind_eq_some_iff.mp H
 obtain ⟨⟨t191, t194, t195, t196⟩, A10, H⟩ := H
 replace H : (if t196 = 0 then (if (t191.length : Int) = 2 then (if 0 < (t191.length : Int) then (if ((rd_T41 t191 0).f1).toList = ([97] : List UInt8) then (if 1 < (t191.length : Int) then (if ((((rd_T41 t191 1).f0).toList) == ([98] : List UInt8) && ((((rd_T41 t191 1).f1).toList) == ([99, 44, 32, 100] : List UInt8) && ((((rd_T41 t191 1).f2).toList) == ([98, 58, 32, 32, 99, 44, 13, 10, 32, 100, 13, 10] : List UInt8)))) = true then (if t194.toList = ([120, 13, 10] : List UInt8) then (some (!t195)) else (some false)) else (some false)) else (none)) else (some false)) else (none)) else (some false)) else (some false)) = some r := H
 have A1 := Aside0.mk A10
 clear A10
 by_cases c2 : t196 = 0
 ·rw [if_pos c2] at H
  have c2b0 : (t196 == 0) = true := beq_iff_eq.mpr c2
  have c2b1 : (t196 != 0) = false := bne_eq_false_iff_eq.mpr c2
  clear c2
  by_cases c3 : (t191.length : Int) = 2
  ·rw [if_pos c3] at H
   have c3b0 : ((t191.length : Int) == 2) = true := beq_iff_eq.mpr c3
   have c3b1 : ((t191.length : Int) != 2) = false := bne_eq_false_iff_eq.mpr c3
   clear c3
   by_cases c4 : 0 < (t191.length : Int)
   ·rw [if_pos c4] at H
    have c4b0 : decide (0 < (t191.length : Int)) = true := decide_eq_true c4
    have c4b1 : decide (0 < t191.length) = true := decide_eq_true (by omega)
    clear c4
    by_cases c5 : ((rd_T41 t191 0).f1).toList = ([97] : List UInt8)
    ·rw [if_pos c5] at H
     have c5b0 : (((rd_T41 t191 0).f1).toList == ([97] : List UInt8)) = true := beq_iff_eq.mpr c5
     have c5b1 : (((rd_T41 t191 0).f1).toList != ([97] : List UInt8)) = false := bne_eq_false_iff_eq.mpr c5
     clear c5
     by_cases c6 : 1 < (t191.length : Int)
     ·rw [if_pos c6] at H
      have c6b0 : decide (1 < (t191.length : Int)) = true := decide_eq_true c6
      have c6b1 : decide (1 < t191.length) = true := decide_eq_true (by omega)
      clear c6
      by_cases c7 : ((((rd_T41 t191 1).f0).toList) == ([98] : List UInt8) && ((((rd_T41 t191 1).f1).toList) == ([99, 44, 32, 100] : List UInt8) && ((((rd_T41 t191 1).f2).toList) == ([98, 58, 32, 32, 99, 44, 13, 10, 32, 100, 13, 10] : List UInt8)))) = true
      ·rw [if_pos c7] at H
       have c7b0 : ((((rd_T41 t191 1).f0).toList) == ([98] : List UInt8) && ((((rd_T41 t191 1).f1).toList) == ([99, 44, 32, 100] : List UInt8) && ((((rd_T41 t191 1).f2).toList) == ([98, 58, 32, 32, 99, 44, 13, 10, 32, 100, 13, 10] : List UInt8)))) = true := c7
       (try (have c7b1 : decide ((((rd_T41 t191 1).f0).toList) = ([98] : List UInt8) && ((((rd_T41 t191 1).f1).toList) == ([99, 44, 32, 100] : List UInt8) && ((((rd_T41 t191 1).f2).toList) == ([98, 58, 32, 32, 99, 44, 13, 10, 32, 100, 13, 10] : List UInt8)))) = true := by simpa using c7))
       (try (have c7b2 : ((((rd_T41 t191 1).f0).toList) == ([98] : List UInt8) && ((((rd_T41 t191 1).f1).toList) == ([99, 44, 32, 100] : List UInt8) && ((((rd_T41 t191 1).f2).toList) == ([98, 58, 32, 32, 99, 44, 13, 10, 32, 100, 13, 10] : List UInt8)))) = true := by simpa using c7))
       clear c7
       by_cases c8 : t194.toList = ([120, 13, 10] : List UInt8)
       ·rw [if_pos c8] at H
        have c8b0 : (t194.toList == ([120, 13, 10] : List UInt8)) = true := beq_iff_eq.mpr c8
        have c8b1 : (t194.toList != ([120, 13, 10] : List UInt8)) = false := bne_eq_false_iff_eq.mpr c8
        clear c8
        obtain rfl := Option.some.inj H
        go_enter Tryd.func13, Tryd.ntmps13
        go_wp2_with (first | ((with_reducible refine gate_callee (f := 9) rfl ?_); refine goesL_ (some 4) rfl rfl Tryd.func9 (by kernel_rfl) rfl #[.string (⟨#[84, 111, 58, 32, 97, 13, 10, 98, 58, 32, 32, 99, 44, 13, 10, 32, 100, 13, 10, 13, 10, 120, 13, 10]⟩ : ByteArray)] rfl ml ?_; (with_reducible refine (head_Parse.calls k (⟨#[84, 111, 58, 32, 97, 13, 10, 98, 58, 32, 32, 99, 44, 13, 10, 32, 100, 13, 10, 13, 10, 120, 13, 10]⟩ : ByteArray) t191 t194 t195 t196 _ ?side1 A1.out).mono ?_); (case side1 => exact Glob.below HG.out bl); rintro e w9 ⟨v192, rfl, ho0, hb⟩; refine ⟨_, rfl, ?_⟩; have n0_ := Aside0.mk (Kd.R_lower ho0 (below_size bl)); have n1_ := Aside0.mk (below_step bl hb); clear HB; have HO193 := n0_; have HB := n1_; clear n0_ n1_; (try clear hb); (try clear hb2); (try clear hk); (try clear hi); (try clear ho0)) | ((with_reducible refine gate_dst (N := 1) rfl ?_); (try (refine gate_guard (by rfl) ?_; dsimp only)); refine box_event ?hg (N := 1) ?hd (cs := #[.slice none 0 0, .string (⟨#[]⟩ : ByteArray), .bool false]) (t := 24) ?hr ?_; (case hd => rfl); (case hg => rfl); (case hr => first | (go_simp; done) | (go_simp; rfl)); intro gb197 hg w10 hbox hb; have n0_ := Aside0.mk (Kd.R_below (kr HO193.out) hb); have n1_ := Aside0.mk (below_step bl hb); have n2_ := Aside0.mk (hbox); have n3_ := Aside0.mk ((by rw [hg]; exact (below_size bl) : w.heap.size ≤ gb197)); have n4_ := Aside0.mk ((by rw [hg]; exact (below_size bl) : w.heap.size ≤ gb197)); clear HO193; clear HB; have HO193 := n0_; have HB := n1_; have BK197 := n2_; have GW197 := n3_; have GE197 := n4_; clear n0_ n1_ n2_ n3_ n4_; clear hb hbox hg; obtain ⟨Ao11, co11, eo11⟩ := Kd.R_slice HO193.out; subst eo11; have hcz12_0 : w10.cell? ⟨gb197, 0, none⟩ = some (.slice none 0 0) := (blk_cell BK197.out 0).trans rfl; have hcz12_1 : w10.cell? ⟨gb197, 1, none⟩ = some (.string (⟨#[]⟩ : ByteArray)) := (blk_cell BK197.out 1).trans rfl; have hcz12_2 : w10.cell? ⟨gb197, 2, none⟩ = some (.bool false) := (blk_cell BK197.out 2).trans rfl; have hfz12_0 := blk_frozen BK197.out 0; have hfz12_1 := blk_frozen BK197.out 1; have hfz12_2 := blk_frozen BK197.out 2; have p198 : 0 ≤ (0 : Int) := (by omega); have q198 : 0 < (t191.length : Int) := od; obtain ⟨ad198, e198, hx198_0, hx198_1, hx198_2⟩ := at_T41 (Kd.R_reads' HO193.out).2.2 0 p198 q198; cases e198; have qi198 : (0 < t191.length) = True := eq_true (by omega); (try rw [show ((0 : Int)).toNat = 0 from rfl] at hx198_0); (try rw [show 0 * 3 = 0 from rfl] at hx198_0); (try rw [Addr.add_zero'] at hx198_0); (try rw [show ((0 : Int)).toNat = 0 from rfl] at hx198_1); (try rw [show 0 * 3 = 0 from rfl] at hx198_1); (try rw [Addr.add_zero'] at hx198_1); (try rw [show ((0 : Int)).toNat = 0 from rfl] at hx198_2); (try rw [show 0 * 3 = 0 from rfl] at hx198_2); (try rw [Addr.add_zero'] at hx198_2); have hn198_0 : ad198.block ≠ gb197 := Kd.own_blk (Kd.R_ne HO193.out BK197.out (by decide)); have hn198_1 : ad198.block ≠ gb197 := Kd.own_blk (Kd.R_ne HO193.out BK197.out (by decide)); have hn198_2 : ad198.block ≠ gb197 := Kd.own_blk (Kd.R_ne HO193.out BK197.out (by decide)); replace hx198_0 := (cell_far (p := ⟨gb197, 0, none⟩) (by first | (rw [add_block]; exact hn198_0) | (show (Addr.add _ _).block ≠ _; rw [add_block]; exact hn198_0) | exact hn198_0) (.slice (some ad198) t191.length co11)).trans hx198_0; replace hx198_1 := (cell_far (p := ⟨gb197, 0, none⟩) (by first | (rw [add_block]; exact hn198_0) | (show (Addr.add _ _).block ≠ _; rw [add_block]; exact hn198_0) | exact hn198_0) (.slice (some ad198) t191.length co11)).trans hx198_1; replace hx198_2 := (cell_far (p := ⟨gb197, 0, none⟩) (by first | (rw [add_block]; exact hn198_0) | (show (Addr.add _ _).block ≠ _; rw [add_block]; exact hn198_0) | exact hn198_0) (.slice (some ad198) t191.length co11)).trans hx198_2; replace hx198_0 := (cell_far (p := ⟨gb197, 1, none⟩) (by first | (rw [add_block]; exact hn198_1) | (show (Addr.add _ _).block ≠ _; rw [add_block]; exact hn198_1) | exact hn198_1) (.string t194)).trans hx198_0; replace hx198_1 := (cell_far (p := ⟨gb197, 1, none⟩) (by first | (rw [add_block]; exact hn198_1) | (show (Addr.add _ _).block ≠ _; rw [add_block]; exact hn198_1) | exact hn198_1) (.string t194)).trans hx198_1; replace hx198_2 := (cell_far (p := ⟨gb197, 1, none⟩) (by first | (rw [add_block]; exact hn198_1) | (show (Addr.add _ _).block ≠ _; rw [add_block]; exact hn198_1) | exact hn198_1) (.string t194)).trans hx198_2; replace hx198_0 := (cell_far (p := ⟨gb197, 2, none⟩) (by first | (rw [add_block]; exact hn198_2) | (show (Addr.add _ _).block ≠ _; rw [add_block]; exact hn198_2) | exact hn198_2) (.bool t195)).trans hx198_0; replace hx198_1 := (cell_far (p := ⟨gb197, 2, none⟩) (by first | (rw [add_block]; exact hn198_2) | (show (Addr.add _ _).block ≠ _; rw [add_block]; exact hn198_2) | exact hn198_2) (.bool t195)).trans hx198_1; replace hx198_2 := (cell_far (p := ⟨gb197, 2, none⟩) (by first | (rw [add_block]; exact hn198_2) | (show (Addr.add _ _).block ≠ _; rw [add_block]; exact hn198_2) | exact hn198_2) (.bool t195)).trans hx198_2; clear hn198_0; clear hn198_1; clear hn198_2; replace p198 := eq_true p198; replace q198 := eq_true q198; have p199 : 0 ≤ (1 : Int) := (by omega); have q199 : 1 < (t191.length : Int) := od; obtain ⟨ad199, e199, hx199_0, hx199_1, hx199_2⟩ := at_T41 (Kd.R_reads' HO193.out).2.2 1 p199 q199; obtain rfl : ad198 = ad199 := (by injection e199); (try simp only [show (1 : Int).toNat = 1 from rfl, Nat.reduceMul, Nat.reduceEqDiff, Go.Addr.add, ↓reduceIte] at hx199_0); (try simp only [show (1 : Int).toNat = 1 from rfl, Nat.reduceMul, Nat.reduceEqDiff, Go.Addr.add, ↓reduceIte] at hx199_1); (try simp only [show (1 : Int).toNat = 1 from rfl, Nat.reduceMul, Nat.reduceEqDiff, Go.Addr.add, ↓reduceIte] at hx199_2); have qi199 : (1 < t191.length) = True := eq_true (by omega); (try rw [show ((1 : Int)).toNat = 1 from rfl] at hx199_0); (try rw [show 1 * 3 = 3 from rfl] at hx199_0); (try rw [show ((1 : Int)).toNat = 1 from rfl] at hx199_1); (try rw [show 1 * 3 = 3 from rfl] at hx199_1); (try rw [show ((1 : Int)).toNat = 1 from rfl] at hx199_2); (try rw [show 1 * 3 = 3 from rfl] at hx199_2); have hn199_0 : ad198.block ≠ gb197 := Kd.own_blk (Kd.R_ne HO193.out BK197.out (by decide)); have hn199_1 : ad198.block ≠ gb197 := Kd.own_blk (Kd.R_ne HO193.out BK197.out (by decide)); have hn199_2 : ad198.block ≠ gb197 := Kd.own_blk (Kd.R_ne HO193.out BK197.out (by decide)); replace hx199_0 := (cell_far (p := ⟨gb197, 0, none⟩) (by first | (rw [add_block]; exact hn199_0) | (show (Addr.add _ _).block ≠ _; rw [add_block]; exact hn199_0) | exact hn199_0) (.slice (some ad198) t191.length co11)).trans hx199_0; replace hx199_1 := (cell_far (p := ⟨gb197, 0, none⟩) (by first | (rw [add_block]; exact hn199_0) | (show (Addr.add _ _).block ≠ _; rw [add_block]; exact hn199_0) | exact hn199_0) (.slice (some ad198) t191.length co11)).trans hx199_1; replace hx199_2 := (cell_far (p := ⟨gb197, 0, none⟩) (by first | (rw [add_block]; exact hn199_0) | (show (Addr.add _ _).block ≠ _; rw [add_block]; exact hn199_0) | exact hn199_0) (.slice (some ad198) t191.length co11)).trans hx199_2; replace hx199_0 := (cell_far (p := ⟨gb197, 1, none⟩) (by first | (rw [add_block]; exact hn199_1) | (show (Addr.add _ _).block ≠ _; rw [add_block]; exact hn199_1) | exact hn199_1) (.string t194)).trans hx199_0; replace hx199_1 := (cell_far (p := ⟨gb197, 1, none⟩) (by first | (rw [add_block]; exact hn199_1) | (show (Addr.add _ _).block ≠ _; rw [add_block]; exact hn199_1) | exact hn199_1) (.string t194)).trans hx199_1; replace hx199_2 := (cell_far (p := ⟨gb197, 1, none⟩) (by first | (rw [add_block]; exact hn199_1) | (show (Addr.add _ _).block ≠ _; rw [add_block]; exact hn199_1) | exact hn199_1) (.string t194)).trans hx199_2; replace hx199_0 := (cell_far (p := ⟨gb197, 2, none⟩) (by first | (rw [add_block]; exact hn199_2) | (show (Addr.add _ _).block ≠ _; rw [add_block]; exact hn199_2) | exact hn199_2) (.bool t195)).trans hx199_0; replace hx199_1 := (cell_far (p := ⟨gb197, 2, none⟩) (by first | (rw [add_block]; exact hn199_2) | (show (Addr.add _ _).block ≠ _; rw [add_block]; exact hn199_2) | exact hn199_2) (.bool t195)).trans hx199_1; replace hx199_2 := (cell_far (p := ⟨gb197, 2, none⟩) (by first | (rw [add_block]; exact hn199_2) | (show (Addr.add _ _).block ≠ _; rw [add_block]; exact hn199_2) | exact hn199_2) (.bool t195)).trans hx199_2; clear hn199_0; clear hn199_1; clear hn199_2; replace p199 := eq_true p199; replace q199 := eq_true q199))
        go_ret
        exact ⟨by first | rfl | (simp [bneNil]; done) | (simp [errW_none, errW_some] <;> rfl) | (simp [*, errW_none, errW_some] <;> rfl), by repeat (first | (with_reducible first | exact HB.out | apply below_alloc | apply pw_below_drewN | apply below_drew1 | refine below_set ?_ GE197.out) | exact HB.out)⟩
       ·rw [if_neg c8] at H
        have c8b0 : (t194.toList == ([120, 13, 10] : List UInt8)) = false := beq_eq_false_iff_ne.mpr c8
        have c8b1 : (t194.toList != ([120, 13, 10] : List UInt8)) = true := bne_iff_ne.mpr c8
        obtain rfl := Option.some.inj H
        go_enter Tryd.func13, Tryd.ntmps13
        go_wp2_with (first | ((with_reducible refine gate_callee (f := 9) rfl ?_); refine goesL_ (some 4) rfl rfl Tryd.func9 (by kernel_rfl) rfl #[.string (⟨#[84, 111, 58, 32, 97, 13, 10, 98, 58, 32, 32, 99, 44, 13, 10, 32, 100, 13, 10, 13, 10, 120, 13, 10]⟩ : ByteArray)] rfl ml ?_; (with_reducible refine (head_Parse.calls k (⟨#[84, 111, 58, 32, 97, 13, 10, 98, 58, 32, 32, 99, 44, 13, 10, 32, 100, 13, 10, 13, 10, 120, 13, 10]⟩ : ByteArray) t191 t194 t195 t196 _ ?side1 A1.out).mono ?_); (case side1 => exact Glob.below HG.out bl); rintro e w13 ⟨v192, rfl, ho0, hb⟩; refine ⟨_, rfl, ?_⟩; have n0_ := Aside0.mk (Kd.R_lower ho0 (below_size bl)); have n1_ := Aside0.mk (below_step bl hb); clear HB; have HO193 := n0_; have HB := n1_; clear n0_ n1_; (try clear hb); (try clear hb2); (try clear hk); (try clear hi); (try clear ho0)) | ((with_reducible refine gate_dst (N := 1) rfl ?_); (try (refine gate_guard (by rfl) ?_; dsimp only)); refine box_event ?hg (N := 1) ?hd (cs := #[.slice none 0 0, .string (⟨#[]⟩ : ByteArray), .bool false]) (t := 24) ?hr ?_; (case hd => rfl); (case hg => rfl); (case hr => first | (go_simp; done) | (go_simp; rfl)); intro gb197 hg w14 hbox hb; have n0_ := Aside0.mk (Kd.R_below (kr HO193.out) hb); have n1_ := Aside0.mk (below_step bl hb); have n2_ := Aside0.mk (hbox); have n3_ := Aside0.mk ((by rw [hg]; exact (below_size bl) : w.heap.size ≤ gb197)); have n4_ := Aside0.mk ((by rw [hg]; exact (below_size bl) : w.heap.size ≤ gb197)); clear HO193; clear HB; have HO193 := n0_; have HB := n1_; have BK197 := n2_; have GW197 := n3_; have GE197 := n4_; clear n0_ n1_ n2_ n3_ n4_; clear hb hbox hg; obtain ⟨Ao15, co15, eo15⟩ := Kd.R_slice HO193.out; subst eo15; have hcz16_0 : w14.cell? ⟨gb197, 0, none⟩ = some (.slice none 0 0) := (blk_cell BK197.out 0).trans rfl; have hcz16_1 : w14.cell? ⟨gb197, 1, none⟩ = some (.string (⟨#[]⟩ : ByteArray)) := (blk_cell BK197.out 1).trans rfl; have hcz16_2 : w14.cell? ⟨gb197, 2, none⟩ = some (.bool false) := (blk_cell BK197.out 2).trans rfl; have hfz16_0 := blk_frozen BK197.out 0; have hfz16_1 := blk_frozen BK197.out 1; have hfz16_2 := blk_frozen BK197.out 2; have p198 : 0 ≤ (0 : Int) := (by omega); have q198 : 0 < (t191.length : Int) := od; obtain ⟨ad198, e198, hx198_0, hx198_1, hx198_2⟩ := at_T41 (Kd.R_reads' HO193.out).2.2 0 p198 q198; cases e198; have qi198 : (0 < t191.length) = True := eq_true (by omega); (try rw [show ((0 : Int)).toNat = 0 from rfl] at hx198_0); (try rw [show 0 * 3 = 0 from rfl] at hx198_0); (try rw [Addr.add_zero'] at hx198_0); (try rw [show ((0 : Int)).toNat = 0 from rfl] at hx198_1); (try rw [show 0 * 3 = 0 from rfl] at hx198_1); (try rw [Addr.add_zero'] at hx198_1); (try rw [show ((0 : Int)).toNat = 0 from rfl] at hx198_2); (try rw [show 0 * 3 = 0 from rfl] at hx198_2); (try rw [Addr.add_zero'] at hx198_2); have hn198_0 : ad198.block ≠ gb197 := Kd.own_blk (Kd.R_ne HO193.out BK197.out (by decide)); have hn198_1 : ad198.block ≠ gb197 := Kd.own_blk (Kd.R_ne HO193.out BK197.out (by decide)); have hn198_2 : ad198.block ≠ gb197 := Kd.own_blk (Kd.R_ne HO193.out BK197.out (by decide)); replace hx198_0 := (cell_far (p := ⟨gb197, 0, none⟩) (by first | (rw [add_block]; exact hn198_0) | (show (Addr.add _ _).block ≠ _; rw [add_block]; exact hn198_0) | exact hn198_0) (.slice (some ad198) t191.length co15)).trans hx198_0; replace hx198_1 := (cell_far (p := ⟨gb197, 0, none⟩) (by first | (rw [add_block]; exact hn198_0) | (show (Addr.add _ _).block ≠ _; rw [add_block]; exact hn198_0) | exact hn198_0) (.slice (some ad198) t191.length co15)).trans hx198_1; replace hx198_2 := (cell_far (p := ⟨gb197, 0, none⟩) (by first | (rw [add_block]; exact hn198_0) | (show (Addr.add _ _).block ≠ _; rw [add_block]; exact hn198_0) | exact hn198_0) (.slice (some ad198) t191.length co15)).trans hx198_2; replace hx198_0 := (cell_far (p := ⟨gb197, 1, none⟩) (by first | (rw [add_block]; exact hn198_1) | (show (Addr.add _ _).block ≠ _; rw [add_block]; exact hn198_1) | exact hn198_1) (.string t194)).trans hx198_0; replace hx198_1 := (cell_far (p := ⟨gb197, 1, none⟩) (by first | (rw [add_block]; exact hn198_1) | (show (Addr.add _ _).block ≠ _; rw [add_block]; exact hn198_1) | exact hn198_1) (.string t194)).trans hx198_1; replace hx198_2 := (cell_far (p := ⟨gb197, 1, none⟩) (by first | (rw [add_block]; exact hn198_1) | (show (Addr.add _ _).block ≠ _; rw [add_block]; exact hn198_1) | exact hn198_1) (.string t194)).trans hx198_2; replace hx198_0 := (cell_far (p := ⟨gb197, 2, none⟩) (by first | (rw [add_block]; exact hn198_2) | (show (Addr.add _ _).block ≠ _; rw [add_block]; exact hn198_2) | exact hn198_2) (.bool t195)).trans hx198_0; replace hx198_1 := (cell_far (p := ⟨gb197, 2, none⟩) (by first | (rw [add_block]; exact hn198_2) | (show (Addr.add _ _).block ≠ _; rw [add_block]; exact hn198_2) | exact hn198_2) (.bool t195)).trans hx198_1; replace hx198_2 := (cell_far (p := ⟨gb197, 2, none⟩) (by first | (rw [add_block]; exact hn198_2) | (show (Addr.add _ _).block ≠ _; rw [add_block]; exact hn198_2) | exact hn198_2) (.bool t195)).trans hx198_2; clear hn198_0; clear hn198_1; clear hn198_2; replace p198 := eq_true p198; replace q198 := eq_true q198; have p199 : 0 ≤ (1 : Int) := (by omega); have q199 : 1 < (t191.length : Int) := od; obtain ⟨ad199, e199, hx199_0, hx199_1, hx199_2⟩ := at_T41 (Kd.R_reads' HO193.out).2.2 1 p199 q199; obtain rfl : ad198 = ad199 := (by injection e199); (try simp only [show (1 : Int).toNat = 1 from rfl, Nat.reduceMul, Nat.reduceEqDiff, Go.Addr.add, ↓reduceIte] at hx199_0); (try simp only [show (1 : Int).toNat = 1 from rfl, Nat.reduceMul, Nat.reduceEqDiff, Go.Addr.add, ↓reduceIte] at hx199_1); (try simp only [show (1 : Int).toNat = 1 from rfl, Nat.reduceMul, Nat.reduceEqDiff, Go.Addr.add, ↓reduceIte] at hx199_2); have qi199 : (1 < t191.length) = True := eq_true (by omega); (try rw [show ((1 : Int)).toNat = 1 from rfl] at hx199_0); (try rw [show 1 * 3 = 3 from rfl] at hx199_0); (try rw [show ((1 : Int)).toNat = 1 from rfl] at hx199_1); (try rw [show 1 * 3 = 3 from rfl] at hx199_1); (try rw [show ((1 : Int)).toNat = 1 from rfl] at hx199_2); (try rw [show 1 * 3 = 3 from rfl] at hx199_2); have hn199_0 : ad198.block ≠ gb197 := Kd.own_blk (Kd.R_ne HO193.out BK197.out (by decide)); have hn199_1 : ad198.block ≠ gb197 := Kd.own_blk (Kd.R_ne HO193.out BK197.out (by decide)); have hn199_2 : ad198.block ≠ gb197 := Kd.own_blk (Kd.R_ne HO193.out BK197.out (by decide)); replace hx199_0 := (cell_far (p := ⟨gb197, 0, none⟩) (by first | (rw [add_block]; exact hn199_0) | (show (Addr.add _ _).block ≠ _; rw [add_block]; exact hn199_0) | exact hn199_0) (.slice (some ad198) t191.length co15)).trans hx199_0; replace hx199_1 := (cell_far (p := ⟨gb197, 0, none⟩) (by first | (rw [add_block]; exact hn199_0) | (show (Addr.add _ _).block ≠ _; rw [add_block]; exact hn199_0) | exact hn199_0) (.slice (some ad198) t191.length co15)).trans hx199_1; replace hx199_2 := (cell_far (p := ⟨gb197, 0, none⟩) (by first | (rw [add_block]; exact hn199_0) | (show (Addr.add _ _).block ≠ _; rw [add_block]; exact hn199_0) | exact hn199_0) (.slice (some ad198) t191.length co15)).trans hx199_2; replace hx199_0 := (cell_far (p := ⟨gb197, 1, none⟩) (by first | (rw [add_block]; exact hn199_1) | (show (Addr.add _ _).block ≠ _; rw [add_block]; exact hn199_1) | exact hn199_1) (.string t194)).trans hx199_0; replace hx199_1 := (cell_far (p := ⟨gb197, 1, none⟩) (by first | (rw [add_block]; exact hn199_1) | (show (Addr.add _ _).block ≠ _; rw [add_block]; exact hn199_1) | exact hn199_1) (.string t194)).trans hx199_1; replace hx199_2 := (cell_far (p := ⟨gb197, 1, none⟩) (by first | (rw [add_block]; exact hn199_1) | (show (Addr.add _ _).block ≠ _; rw [add_block]; exact hn199_1) | exact hn199_1) (.string t194)).trans hx199_2; replace hx199_0 := (cell_far (p := ⟨gb197, 2, none⟩) (by first | (rw [add_block]; exact hn199_2) | (show (Addr.add _ _).block ≠ _; rw [add_block]; exact hn199_2) | exact hn199_2) (.bool t195)).trans hx199_0; replace hx199_1 := (cell_far (p := ⟨gb197, 2, none⟩) (by first | (rw [add_block]; exact hn199_2) | (show (Addr.add _ _).block ≠ _; rw [add_block]; exact hn199_2) | exact hn199_2) (.bool t195)).trans hx199_1; replace hx199_2 := (cell_far (p := ⟨gb197, 2, none⟩) (by first | (rw [add_block]; exact hn199_2) | (show (Addr.add _ _).block ≠ _; rw [add_block]; exact hn199_2) | exact hn199_2) (.bool t195)).trans hx199_2; clear hn199_0; clear hn199_1; clear hn199_2; replace p199 := eq_true p199; replace q199 := eq_true q199))
        go_ret
        exact ⟨by first | rfl | (simp [bneNil]; done) | (simp [errW_none, errW_some] <;> rfl) | (simp [*, errW_none, errW_some] <;> rfl), by repeat (first | (with_reducible first | exact HB.out | apply below_alloc | apply pw_below_drewN | apply below_drew1 | refine below_set ?_ GE197.out) | exact HB.out)⟩
      ·rw [if_neg c7] at H
       have c7b0 : ((((rd_T41 t191 1).f0).toList) == ([98] : List UInt8) && ((((rd_T41 t191 1).f1).toList) == ([99, 44, 32, 100] : List UInt8) && ((((rd_T41 t191 1).f2).toList) == ([98, 58, 32, 32, 99, 44, 13, 10, 32, 100, 13, 10] : List UInt8)))) = false := by simpa using c7
       (try (have c7b1 : decide ((((rd_T41 t191 1).f0).toList) = ([98] : List UInt8) && ((((rd_T41 t191 1).f1).toList) == ([99, 44, 32, 100] : List UInt8) && ((((rd_T41 t191 1).f2).toList) == ([98, 58, 32, 32, 99, 44, 13, 10, 32, 100, 13, 10] : List UInt8)))) = false := by simpa using c7))
       (try (have c7b2 : ((((rd_T41 t191 1).f0).toList) == ([98] : List UInt8) && ((((rd_T41 t191 1).f1).toList) == ([99, 44, 32, 100] : List UInt8) && ((((rd_T41 t191 1).f2).toList) == ([98, 58, 32, 32, 99, 44, 13, 10, 32, 100, 13, 10] : List UInt8)))) = false := by simpa using c7))
       (try (have c7b3 : ¬ ((((rd_T41 t191 1).f0).toList) = ([98] : List UInt8) && ((((rd_T41 t191 1).f1).toList) == ([99, 44, 32, 100] : List UInt8) && ((((rd_T41 t191 1).f2).toList) == ([98, 58, 32, 32, 99, 44, 13, 10, 32, 100, 13, 10] : List UInt8)))) := by simpa using c7))
       clear c7
       obtain rfl := Option.some.inj H
       go_enter Tryd.func13, Tryd.ntmps13
       go_wp2_with (first | ((with_reducible refine gate_callee (f := 9) rfl ?_); refine goesL_ (some 4) rfl rfl Tryd.func9 (by kernel_rfl) rfl #[.string (⟨#[84, 111, 58, 32, 97, 13, 10, 98, 58, 32, 32, 99, 44, 13, 10, 32, 100, 13, 10, 13, 10, 120, 13, 10]⟩ : ByteArray)] rfl ml ?_; (with_reducible refine (head_Parse.calls k (⟨#[84, 111, 58, 32, 97, 13, 10, 98, 58, 32, 32, 99, 44, 13, 10, 32, 100, 13, 10, 13, 10, 120, 13, 10]⟩ : ByteArray) t191 t194 t195 t196 _ ?side1 A1.out).mono ?_); (case side1 => exact Glob.below HG.out bl); rintro e w17 ⟨v192, rfl, ho0, hb⟩; refine ⟨_, rfl, ?_⟩; have n0_ := Aside0.mk (Kd.R_lower ho0 (below_size bl)); have n1_ := Aside0.mk (below_step bl hb); clear HB; have HO193 := n0_; have HB := n1_; clear n0_ n1_; (try clear hb); (try clear hb2); (try clear hk); (try clear hi); (try clear ho0)) | ((with_reducible refine gate_dst (N := 1) rfl ?_); (try (refine gate_guard (by rfl) ?_; dsimp only)); refine box_event ?hg (N := 1) ?hd (cs := #[.slice none 0 0, .string (⟨#[]⟩ : ByteArray), .bool false]) (t := 24) ?hr ?_; (case hd => rfl); (case hg => rfl); (case hr => first | (go_simp; done) | (go_simp; rfl)); intro gb197 hg w18 hbox hb; have n0_ := Aside0.mk (Kd.R_below (kr HO193.out) hb); have n1_ := Aside0.mk (below_step bl hb); have n2_ := Aside0.mk (hbox); have n3_ := Aside0.mk ((by rw [hg]; exact (below_size bl) : w.heap.size ≤ gb197)); have n4_ := Aside0.mk ((by rw [hg]; exact (below_size bl) : w.heap.size ≤ gb197)); clear HO193; clear HB; have HO193 := n0_; have HB := n1_; have BK197 := n2_; have GW197 := n3_; have GE197 := n4_; clear n0_ n1_ n2_ n3_ n4_; clear hb hbox hg; obtain ⟨Ao19, co19, eo19⟩ := Kd.R_slice HO193.out; subst eo19; have hcz20_0 : w18.cell? ⟨gb197, 0, none⟩ = some (.slice none 0 0) := (blk_cell BK197.out 0).trans rfl; have hcz20_1 : w18.cell? ⟨gb197, 1, none⟩ = some (.string (⟨#[]⟩ : ByteArray)) := (blk_cell BK197.out 1).trans rfl; have hcz20_2 : w18.cell? ⟨gb197, 2, none⟩ = some (.bool false) := (blk_cell BK197.out 2).trans rfl; have hfz20_0 := blk_frozen BK197.out 0; have hfz20_1 := blk_frozen BK197.out 1; have hfz20_2 := blk_frozen BK197.out 2; have p198 : 0 ≤ (0 : Int) := (by omega); have q198 : 0 < (t191.length : Int) := od; obtain ⟨ad198, e198, hx198_0, hx198_1, hx198_2⟩ := at_T41 (Kd.R_reads' HO193.out).2.2 0 p198 q198; cases e198; have qi198 : (0 < t191.length) = True := eq_true (by omega); (try rw [show ((0 : Int)).toNat = 0 from rfl] at hx198_0); (try rw [show 0 * 3 = 0 from rfl] at hx198_0); (try rw [Addr.add_zero'] at hx198_0); (try rw [show ((0 : Int)).toNat = 0 from rfl] at hx198_1); (try rw [show 0 * 3 = 0 from rfl] at hx198_1); (try rw [Addr.add_zero'] at hx198_1); (try rw [show ((0 : Int)).toNat = 0 from rfl] at hx198_2); (try rw [show 0 * 3 = 0 from rfl] at hx198_2); (try rw [Addr.add_zero'] at hx198_2); have hn198_0 : ad198.block ≠ gb197 := Kd.own_blk (Kd.R_ne HO193.out BK197.out (by decide)); have hn198_1 : ad198.block ≠ gb197 := Kd.own_blk (Kd.R_ne HO193.out BK197.out (by decide)); have hn198_2 : ad198.block ≠ gb197 := Kd.own_blk (Kd.R_ne HO193.out BK197.out (by decide)); replace hx198_0 := (cell_far (p := ⟨gb197, 0, none⟩) (by first | (rw [add_block]; exact hn198_0) | (show (Addr.add _ _).block ≠ _; rw [add_block]; exact hn198_0) | exact hn198_0) (.slice (some ad198) t191.length co19)).trans hx198_0; replace hx198_1 := (cell_far (p := ⟨gb197, 0, none⟩) (by first | (rw [add_block]; exact hn198_0) | (show (Addr.add _ _).block ≠ _; rw [add_block]; exact hn198_0) | exact hn198_0) (.slice (some ad198) t191.length co19)).trans hx198_1; replace hx198_2 := (cell_far (p := ⟨gb197, 0, none⟩) (by first | (rw [add_block]; exact hn198_0) | (show (Addr.add _ _).block ≠ _; rw [add_block]; exact hn198_0) | exact hn198_0) (.slice (some ad198) t191.length co19)).trans hx198_2; replace hx198_0 := (cell_far (p := ⟨gb197, 1, none⟩) (by first | (rw [add_block]; exact hn198_1) | (show (Addr.add _ _).block ≠ _; rw [add_block]; exact hn198_1) | exact hn198_1) (.string t194)).trans hx198_0; replace hx198_1 := (cell_far (p := ⟨gb197, 1, none⟩) (by first | (rw [add_block]; exact hn198_1) | (show (Addr.add _ _).block ≠ _; rw [add_block]; exact hn198_1) | exact hn198_1) (.string t194)).trans hx198_1; replace hx198_2 := (cell_far (p := ⟨gb197, 1, none⟩) (by first | (rw [add_block]; exact hn198_1) | (show (Addr.add _ _).block ≠ _; rw [add_block]; exact hn198_1) | exact hn198_1) (.string t194)).trans hx198_2; replace hx198_0 := (cell_far (p := ⟨gb197, 2, none⟩) (by first | (rw [add_block]; exact hn198_2) | (show (Addr.add _ _).block ≠ _; rw [add_block]; exact hn198_2) | exact hn198_2) (.bool t195)).trans hx198_0; replace hx198_1 := (cell_far (p := ⟨gb197, 2, none⟩) (by first | (rw [add_block]; exact hn198_2) | (show (Addr.add _ _).block ≠ _; rw [add_block]; exact hn198_2) | exact hn198_2) (.bool t195)).trans hx198_1; replace hx198_2 := (cell_far (p := ⟨gb197, 2, none⟩) (by first | (rw [add_block]; exact hn198_2) | (show (Addr.add _ _).block ≠ _; rw [add_block]; exact hn198_2) | exact hn198_2) (.bool t195)).trans hx198_2; clear hn198_0; clear hn198_1; clear hn198_2; replace p198 := eq_true p198; replace q198 := eq_true q198; have p199 : 0 ≤ (1 : Int) := (by omega); have q199 : 1 < (t191.length : Int) := od; obtain ⟨ad199, e199, hx199_0, hx199_1, hx199_2⟩ := at_T41 (Kd.R_reads' HO193.out).2.2 1 p199 q199; obtain rfl : ad198 = ad199 := (by injection e199); (try simp only [show (1 : Int).toNat = 1 from rfl, Nat.reduceMul, Nat.reduceEqDiff, Go.Addr.add, ↓reduceIte] at hx199_0); (try simp only [show (1 : Int).toNat = 1 from rfl, Nat.reduceMul, Nat.reduceEqDiff, Go.Addr.add, ↓reduceIte] at hx199_1); (try simp only [show (1 : Int).toNat = 1 from rfl, Nat.reduceMul, Nat.reduceEqDiff, Go.Addr.add, ↓reduceIte] at hx199_2); have qi199 : (1 < t191.length) = True := eq_true (by omega); (try rw [show ((1 : Int)).toNat = 1 from rfl] at hx199_0); (try rw [show 1 * 3 = 3 from rfl] at hx199_0); (try rw [show ((1 : Int)).toNat = 1 from rfl] at hx199_1); (try rw [show 1 * 3 = 3 from rfl] at hx199_1); (try rw [show ((1 : Int)).toNat = 1 from rfl] at hx199_2); (try rw [show 1 * 3 = 3 from rfl] at hx199_2); have hn199_0 : ad198.block ≠ gb197 := Kd.own_blk (Kd.R_ne HO193.out BK197.out (by decide)); have hn199_1 : ad198.block ≠ gb197 := Kd.own_blk (Kd.R_ne HO193.out BK197.out (by decide)); have hn199_2 : ad198.block ≠ gb197 := Kd.own_blk (Kd.R_ne HO193.out BK197.out (by decide)); replace hx199_0 := (cell_far (p := ⟨gb197, 0, none⟩) (by first | (rw [add_block]; exact hn199_0) | (show (Addr.add _ _).block ≠ _; rw [add_block]; exact hn199_0) | exact hn199_0) (.slice (some ad198) t191.length co19)).trans hx199_0; replace hx199_1 := (cell_far (p := ⟨gb197, 0, none⟩) (by first | (rw [add_block]; exact hn199_0) | (show (Addr.add _ _).block ≠ _; rw [add_block]; exact hn199_0) | exact hn199_0) (.slice (some ad198) t191.length co19)).trans hx199_1; replace hx199_2 := (cell_far (p := ⟨gb197, 0, none⟩) (by first | (rw [add_block]; exact hn199_0) | (show (Addr.add _ _).block ≠ _; rw [add_block]; exact hn199_0) | exact hn199_0) (.slice (some ad198) t191.length co19)).trans hx199_2; replace hx199_0 := (cell_far (p := ⟨gb197, 1, none⟩) (by first | (rw [add_block]; exact hn199_1) | (show (Addr.add _ _).block ≠ _; rw [add_block]; exact hn199_1) | exact hn199_1) (.string t194)).trans hx199_0; replace hx199_1 := (cell_far (p := ⟨gb197, 1, none⟩) (by first | (rw [add_block]; exact hn199_1) | (show (Addr.add _ _).block ≠ _; rw [add_block]; exact hn199_1) | exact hn199_1) (.string t194)).trans hx199_1; replace hx199_2 := (cell_far (p := ⟨gb197, 1, none⟩) (by first | (rw [add_block]; exact hn199_1) | (show (Addr.add _ _).block ≠ _; rw [add_block]; exact hn199_1) | exact hn199_1) (.string t194)).trans hx199_2; replace hx199_0 := (cell_far (p := ⟨gb197, 2, none⟩) (by first | (rw [add_block]; exact hn199_2) | (show (Addr.add _ _).block ≠ _; rw [add_block]; exact hn199_2) | exact hn199_2) (.bool t195)).trans hx199_0; replace hx199_1 := (cell_far (p := ⟨gb197, 2, none⟩) (by first | (rw [add_block]; exact hn199_2) | (show (Addr.add _ _).block ≠ _; rw [add_block]; exact hn199_2) | exact hn199_2) (.bool t195)).trans hx199_1; replace hx199_2 := (cell_far (p := ⟨gb197, 2, none⟩) (by first | (rw [add_block]; exact hn199_2) | (show (Addr.add _ _).block ≠ _; rw [add_block]; exact hn199_2) | exact hn199_2) (.bool t195)).trans hx199_2; clear hn199_0; clear hn199_1; clear hn199_2; replace p199 := eq_true p199; replace q199 := eq_true q199))
       go_ret
       exact ⟨by first | rfl | (simp [bneNil]; done) | (simp [errW_none, errW_some] <;> rfl) | (simp [*, errW_none, errW_some] <;> rfl), by repeat (first | (with_reducible first | exact HB.out | apply below_alloc | apply pw_below_drewN | apply below_drew1 | refine below_set ?_ GE197.out) | exact HB.out)⟩
     ·rw [if_neg c6] at H
      exact absurd H (by simp)
    ·rw [if_neg c5] at H
     have c5b0 : (((rd_T41 t191 0).f1).toList == ([97] : List UInt8)) = false := beq_eq_false_iff_ne.mpr c5
     have c5b1 : (((rd_T41 t191 0).f1).toList != ([97] : List UInt8)) = true := bne_iff_ne.mpr c5
     obtain rfl := Option.some.inj H
     go_enter Tryd.func13, Tryd.ntmps13
     go_wp2_with (first | ((with_reducible refine gate_callee (f := 9) rfl ?_); refine goesL_ (some 4) rfl rfl Tryd.func9 (by kernel_rfl) rfl #[.string (⟨#[84, 111, 58, 32, 97, 13, 10, 98, 58, 32, 32, 99, 44, 13, 10, 32, 100, 13, 10, 13, 10, 120, 13, 10]⟩ : ByteArray)] rfl ml ?_; (with_reducible refine (head_Parse.calls k (⟨#[84, 111, 58, 32, 97, 13, 10, 98, 58, 32, 32, 99, 44, 13, 10, 32, 100, 13, 10, 13, 10, 120, 13, 10]⟩ : ByteArray) t191 t194 t195 t196 _ ?side1 A1.out).mono ?_); (case side1 => exact Glob.below HG.out bl); rintro e w21 ⟨v192, rfl, ho0, hb⟩; refine ⟨_, rfl, ?_⟩; have n0_ := Aside0.mk (Kd.R_lower ho0 (below_size bl)); have n1_ := Aside0.mk (below_step bl hb); clear HB; have HO193 := n0_; have HB := n1_; clear n0_ n1_; (try clear hb); (try clear hb2); (try clear hk); (try clear hi); (try clear ho0)) | ((with_reducible refine gate_dst (N := 1) rfl ?_); (try (refine gate_guard (by rfl) ?_; dsimp only)); refine box_event ?hg (N := 1) ?hd (cs := #[.slice none 0 0, .string (⟨#[]⟩ : ByteArray), .bool false]) (t := 24) ?hr ?_; (case hd => rfl); (case hg => rfl); (case hr => first | (go_simp; done) | (go_simp; rfl)); intro gb197 hg w22 hbox hb; have n0_ := Aside0.mk (Kd.R_below (kr HO193.out) hb); have n1_ := Aside0.mk (below_step bl hb); have n2_ := Aside0.mk (hbox); have n3_ := Aside0.mk ((by rw [hg]; exact (below_size bl) : w.heap.size ≤ gb197)); have n4_ := Aside0.mk ((by rw [hg]; exact (below_size bl) : w.heap.size ≤ gb197)); clear HO193; clear HB; have HO193 := n0_; have HB := n1_; have BK197 := n2_; have GW197 := n3_; have GE197 := n4_; clear n0_ n1_ n2_ n3_ n4_; clear hb hbox hg; obtain ⟨Ao23, co23, eo23⟩ := Kd.R_slice HO193.out; subst eo23; have hcz24_0 : w22.cell? ⟨gb197, 0, none⟩ = some (.slice none 0 0) := (blk_cell BK197.out 0).trans rfl; have hcz24_1 : w22.cell? ⟨gb197, 1, none⟩ = some (.string (⟨#[]⟩ : ByteArray)) := (blk_cell BK197.out 1).trans rfl; have hcz24_2 : w22.cell? ⟨gb197, 2, none⟩ = some (.bool false) := (blk_cell BK197.out 2).trans rfl; have hfz24_0 := blk_frozen BK197.out 0; have hfz24_1 := blk_frozen BK197.out 1; have hfz24_2 := blk_frozen BK197.out 2; have p198 : 0 ≤ (0 : Int) := (by omega); have q198 : 0 < (t191.length : Int) := od; obtain ⟨ad198, e198, hx198_0, hx198_1, hx198_2⟩ := at_T41 (Kd.R_reads' HO193.out).2.2 0 p198 q198; cases e198; have qi198 : (0 < t191.length) = True := eq_true (by omega); (try rw [show ((0 : Int)).toNat = 0 from rfl] at hx198_0); (try rw [show 0 * 3 = 0 from rfl] at hx198_0); (try rw [Addr.add_zero'] at hx198_0); (try rw [show ((0 : Int)).toNat = 0 from rfl] at hx198_1); (try rw [show 0 * 3 = 0 from rfl] at hx198_1); (try rw [Addr.add_zero'] at hx198_1); (try rw [show ((0 : Int)).toNat = 0 from rfl] at hx198_2); (try rw [show 0 * 3 = 0 from rfl] at hx198_2); (try rw [Addr.add_zero'] at hx198_2); have hn198_0 : ad198.block ≠ gb197 := Kd.own_blk (Kd.R_ne HO193.out BK197.out (by decide)); have hn198_1 : ad198.block ≠ gb197 := Kd.own_blk (Kd.R_ne HO193.out BK197.out (by decide)); have hn198_2 : ad198.block ≠ gb197 := Kd.own_blk (Kd.R_ne HO193.out BK197.out (by decide)); replace hx198_0 := (cell_far (p := ⟨gb197, 0, none⟩) (by first | (rw [add_block]; exact hn198_0) | (show (Addr.add _ _).block ≠ _; rw [add_block]; exact hn198_0) | exact hn198_0) (.slice (some ad198) t191.length co23)).trans hx198_0; replace hx198_1 := (cell_far (p := ⟨gb197, 0, none⟩) (by first | (rw [add_block]; exact hn198_0) | (show (Addr.add _ _).block ≠ _; rw [add_block]; exact hn198_0) | exact hn198_0) (.slice (some ad198) t191.length co23)).trans hx198_1; replace hx198_2 := (cell_far (p := ⟨gb197, 0, none⟩) (by first | (rw [add_block]; exact hn198_0) | (show (Addr.add _ _).block ≠ _; rw [add_block]; exact hn198_0) | exact hn198_0) (.slice (some ad198) t191.length co23)).trans hx198_2; replace hx198_0 := (cell_far (p := ⟨gb197, 1, none⟩) (by first | (rw [add_block]; exact hn198_1) | (show (Addr.add _ _).block ≠ _; rw [add_block]; exact hn198_1) | exact hn198_1) (.string t194)).trans hx198_0; replace hx198_1 := (cell_far (p := ⟨gb197, 1, none⟩) (by first | (rw [add_block]; exact hn198_1) | (show (Addr.add _ _).block ≠ _; rw [add_block]; exact hn198_1) | exact hn198_1) (.string t194)).trans hx198_1; replace hx198_2 := (cell_far (p := ⟨gb197, 1, none⟩) (by first | (rw [add_block]; exact hn198_1) | (show (Addr.add _ _).block ≠ _; rw [add_block]; exact hn198_1) | exact hn198_1) (.string t194)).trans hx198_2; replace hx198_0 := (cell_far (p := ⟨gb197, 2, none⟩) (by first | (rw [add_block]; exact hn198_2) | (show (Addr.add _ _).block ≠ _; rw [add_block]; exact hn198_2) | exact hn198_2) (.bool t195)).trans hx198_0; replace hx198_1 := (cell_far (p := ⟨gb197, 2, none⟩) (by first | (rw [add_block]; exact hn198_2) | (show (Addr.add _ _).block ≠ _; rw [add_block]; exact hn198_2) | exact hn198_2) (.bool t195)).trans hx198_1; replace hx198_2 := (cell_far (p := ⟨gb197, 2, none⟩) (by first | (rw [add_block]; exact hn198_2) | (show (Addr.add _ _).block ≠ _; rw [add_block]; exact hn198_2) | exact hn198_2) (.bool t195)).trans hx198_2; clear hn198_0; clear hn198_1; clear hn198_2; replace p198 := eq_true p198; replace q198 := eq_true q198))
     go_ret
     exact ⟨by first | rfl | (simp [bneNil]; done) | (simp [errW_none, errW_some] <;> rfl) | (simp [*, errW_none, errW_some] <;> rfl), by repeat (first | (with_reducible first | exact HB.out | apply below_alloc | apply pw_below_drewN | apply below_drew1 | refine below_set ?_ GE197.out) | exact HB.out)⟩
   ·rw [if_neg c4] at H
    exact absurd H (by simp)
  ·rw [if_neg c3] at H
   have c3b0 : ((t191.length : Int) == 2) = false := beq_eq_false_iff_ne.mpr c3
   have c3b1 : ((t191.length : Int) != 2) = true := bne_iff_ne.mpr c3
   obtain rfl := Option.some.inj H
   go_enter Tryd.func13, Tryd.ntmps13
   go_wp2_with (first | ((with_reducible refine gate_callee (f := 9) rfl ?_); refine goesL_ (some 4) rfl rfl Tryd.func9 (by kernel_rfl) rfl #[.string (⟨#[84, 111, 58, 32, 97, 13, 10, 98, 58, 32, 32, 99, 44, 13, 10, 32, 100, 13, 10, 13, 10, 120, 13, 10]⟩ : ByteArray)] rfl ml ?_; (with_reducible refine (head_Parse.calls k (⟨#[84, 111, 58, 32, 97, 13, 10, 98, 58, 32, 32, 99, 44, 13, 10, 32, 100, 13, 10, 13, 10, 120, 13, 10]⟩ : ByteArray) t191 t194 t195 t196 _ ?side1 A1.out).mono ?_); (case side1 => exact Glob.below HG.out bl); rintro e w25 ⟨v192, rfl, ho0, hb⟩; refine ⟨_, rfl, ?_⟩; have n0_ := Aside0.mk (Kd.R_lower ho0 (below_size bl)); have n1_ := Aside0.mk (below_step bl hb); clear HB; have HO193 := n0_; have HB := n1_; clear n0_ n1_; (try clear hb); (try clear hb2); (try clear hk); (try clear hi); (try clear ho0)) | ((with_reducible refine gate_dst (N := 1) rfl ?_); (try (refine gate_guard (by rfl) ?_; dsimp only)); refine box_event ?hg (N := 1) ?hd (cs := #[.slice none 0 0, .string (⟨#[]⟩ : ByteArray), .bool false]) (t := 24) ?hr ?_; (case hd => rfl); (case hg => rfl); (case hr => first | (go_simp; done) | (go_simp; rfl)); intro gb197 hg w26 hbox hb; have n0_ := Aside0.mk (Kd.R_below (kr HO193.out) hb); have n1_ := Aside0.mk (below_step bl hb); have n2_ := Aside0.mk (hbox); have n3_ := Aside0.mk ((by rw [hg]; exact (below_size bl) : w.heap.size ≤ gb197)); have n4_ := Aside0.mk ((by rw [hg]; exact (below_size bl) : w.heap.size ≤ gb197)); clear HO193; clear HB; have HO193 := n0_; have HB := n1_; have BK197 := n2_; have GW197 := n3_; have GE197 := n4_; clear n0_ n1_ n2_ n3_ n4_; clear hb hbox hg; obtain ⟨Ao27, co27, eo27⟩ := Kd.R_slice HO193.out; subst eo27; have hcz28_0 : w26.cell? ⟨gb197, 0, none⟩ = some (.slice none 0 0) := (blk_cell BK197.out 0).trans rfl; have hcz28_1 : w26.cell? ⟨gb197, 1, none⟩ = some (.string (⟨#[]⟩ : ByteArray)) := (blk_cell BK197.out 1).trans rfl; have hcz28_2 : w26.cell? ⟨gb197, 2, none⟩ = some (.bool false) := (blk_cell BK197.out 2).trans rfl; have hfz28_0 := blk_frozen BK197.out 0; have hfz28_1 := blk_frozen BK197.out 1; have hfz28_2 := blk_frozen BK197.out 2))
   go_ret
   exact ⟨by first | rfl | (simp [bneNil]; done) | (simp [errW_none, errW_some] <;> rfl) | (simp [*, errW_none, errW_some] <;> rfl), by repeat (first | (with_reducible first | exact HB.out | apply below_alloc | apply pw_below_drewN | apply below_drew1 | refine below_set ?_ GE197.out) | exact HB.out)⟩
 ·rw [if_neg c2] at H
  have c2b0 : (t196 == 0) = false := beq_eq_false_iff_ne.mpr c2
  have c2b1 : (t196 != 0) = true := bne_iff_ne.mpr c2
  obtain rfl := Option.some.inj H
  go_enter Tryd.func13, Tryd.ntmps13
  go_wp2_with (first | ((with_reducible refine gate_callee (f := 9) rfl ?_); refine goesL_ (some 4) rfl rfl Tryd.func9 (by kernel_rfl) rfl #[.string (⟨#[84, 111, 58, 32, 97, 13, 10, 98, 58, 32, 32, 99, 44, 13, 10, 32, 100, 13, 10, 13, 10, 120, 13, 10]⟩ : ByteArray)] rfl ml ?_; (with_reducible refine (head_Parse.calls k (⟨#[84, 111, 58, 32, 97, 13, 10, 98, 58, 32, 32, 99, 44, 13, 10, 32, 100, 13, 10, 13, 10, 120, 13, 10]⟩ : ByteArray) t191 t194 t195 t196 _ ?side1 A1.out).mono ?_); (case side1 => exact Glob.below HG.out bl); rintro e w29 ⟨v192, rfl, ho0, hb⟩; refine ⟨_, rfl, ?_⟩; have n0_ := Aside0.mk (Kd.R_lower ho0 (below_size bl)); have n1_ := Aside0.mk (below_step bl hb); clear HB; have HO193 := n0_; have HB := n1_; clear n0_ n1_; (try clear hb); (try clear hb2); (try clear hk); (try clear hi); (try clear ho0)) | ((with_reducible refine gate_dst (N := 1) rfl ?_); (try (refine gate_guard (by rfl) ?_; dsimp only)); refine box_event ?hg (N := 1) ?hd (cs := #[.slice none 0 0, .string (⟨#[]⟩ : ByteArray), .bool false]) (t := 24) ?hr ?_; (case hd => rfl); (case hg => rfl); (case hr => first | (go_simp; done) | (go_simp; rfl)); intro gb197 hg w30 hbox hb; have n0_ := Aside0.mk (Kd.R_below (kr HO193.out) hb); have n1_ := Aside0.mk (below_step bl hb); have n2_ := Aside0.mk (hbox); have n3_ := Aside0.mk ((by rw [hg]; exact (below_size bl) : w.heap.size ≤ gb197)); have n4_ := Aside0.mk ((by rw [hg]; exact (below_size bl) : w.heap.size ≤ gb197)); clear HO193; clear HB; have HO193 := n0_; have HB := n1_; have BK197 := n2_; have GW197 := n3_; have GE197 := n4_; clear n0_ n1_ n2_ n3_ n4_; clear hb hbox hg; obtain ⟨Ao31, co31, eo31⟩ := Kd.R_slice HO193.out; subst eo31; have hcz32_0 : w30.cell? ⟨gb197, 0, none⟩ = some (.slice none 0 0) := (blk_cell BK197.out 0).trans rfl; have hcz32_1 : w30.cell? ⟨gb197, 1, none⟩ = some (.string (⟨#[]⟩ : ByteArray)) := (blk_cell BK197.out 1).trans rfl; have hcz32_2 : w30.cell? ⟨gb197, 2, none⟩ = some (.bool false) := (blk_cell BK197.out 2).trans rfl; have hfz32_0 := blk_frozen BK197.out 0; have hfz32_1 := blk_frozen BK197.out 1; have hfz32_2 := blk_frozen BK197.out 2))
  go_ret
  exact ⟨by first | rfl | (simp [bneNil]; done) | (simp [errW_none, errW_some] <;> rfl) | (simp [*, errW_none, errW_some] <;> rfl), by repeat (first | (with_reducible first | exact HB.out | apply below_alloc | apply pw_below_drewN | apply below_drew1 | refine below_set ?_ GE197.out) | exact HB.out)⟩

/-! ### head_fold: function 48 -/
mutual
def head_fold.l0 : Nat → ByteArray → Int → Int → Option (Int)
 | 0, _, _, _ => none
 | k + 1, x0, x5, x6 => if x6 < (x0.size : Int) then (if 0 ≤ x6 then (if (bt x0 x6) = 32 then (if 0 ≤ (wrap64 (x6 - 1)) then (if (wrap64 (x6 - 1)) < (x0.size : Int) then (if (bt x0 (wrap64 (x6 - 1))) = 44 then (if x5 ≥ 0 then (head_fold.j1 k x0 x5 x6 (decide (x6 > 78))) else (head_fold.j1 k x0 x5 x6 false)) else (head_fold.j1 k x0 x5 x6 true)) else (none)) else (none)) else (head_fold.j1 k x0 x5 x6 true)) else (none)) else (some x5)
def head_fold.j1 : Nat → ByteArray → Int → Int → Bool → Option (Int)
 | 0, _, _, _, _ => none
 | k + 1, x0, x5, x6, x35 => if x35 = true then (head_fold.l0 k x0 x5 (wrap64 (x6 + 1))) else (if x6 > 78 then (some x6) else (head_fold.l0 k x0 x6 (wrap64 (x6 + 1))))
end
def head_fold.f (k : Nat) (a0 : ByteArray) (a1 : Int) : Option (Int) := if (a0.size : Int) ≤ 78 then (some (-1)) else (head_fold.l0 k a0 (-1) a1)
theorem head_fold.mono_l : ∀ k, (∀ y0 y1 y2, LeO (head_fold.l0 k y0 y1 y2) (head_fold.l0 (k + 1) y0 y1 y2)) ∧ (∀ y0 y1 y2 y3, LeO (head_fold.j1 k y0 y1 y2 y3) (head_fold.j1 (k + 1) y0 y1 y2 y3))
 | 0 => ⟨fun _ _ _ r h => by simp [head_fold.l0] at h, fun _ _ _ _ r h => by simp [head_fold.j1] at h⟩
 | k + 1 => by
  obtain ⟨ih0, ih1⟩ := head_fold.mono_l k
  refine ⟨?_, ?_⟩
  ·intro y0 y1 y2
   unfold head_fold.l0
   repeat' first
   | (with_reducible exact ih0 _ _ _)
   | (with_reducible exact ih1 _ _ _ _)
   | (with_reducible exact LeO.refl _)
   | (with_reducible exact LeO.none _)
   | (with_reducible refine LeO.ite ?_ ?_)
   | (with_reducible refine LeO.bind ?_ (fun _ => ?_))
   | exact ih0 _ _ _
   | exact ih1 _ _ _ _
   | exact LeO.none _
   | refine LeO.ite ?_ ?_
   | refine LeO.bind ?_ (fun _ => ?_)
  ·intro y0 y1 y2 y3
   unfold head_fold.j1
   repeat' first
   | (with_reducible exact ih0 _ _ _)
   | (with_reducible exact ih1 _ _ _ _)
   | (with_reducible exact LeO.refl _)
   | (with_reducible exact LeO.none _)
   | (with_reducible refine LeO.ite ?_ ?_)
   | (with_reducible refine LeO.bind ?_ (fun _ => ?_))
   | exact ih0 _ _ _
   | exact ih1 _ _ _ _
   | exact LeO.none _
   | refine LeO.ite ?_ ?_
   | refine LeO.bind ?_ (fun _ => ?_)
theorem head_fold.mono : ∀ a0 a1 k, LeO (head_fold.f k a0 a1) (head_fold.f (k + 1) a0 a1) := by
 intro a0 a1 k
 obtain ⟨ih0, ih1⟩ := head_fold.mono_l k
 unfold head_fold.f
 repeat' first
   | (with_reducible exact ih0 _ _ _)
   | (with_reducible exact ih1 _ _ _ _)
   | (with_reducible exact LeO.refl _)
   | (with_reducible exact LeO.none _)
   | (with_reducible refine LeO.ite ?_ ?_)
   | (with_reducible refine LeO.bind ?_ (fun _ => ?_))
   | exact ih0 _ _ _
   | exact ih1 _ _ _ _
   | exact LeO.none _
   | refine LeO.ite ?_ ?_
   | refine LeO.bind ?_ (fun _ => ?_)
set_option maxHeartbeats 8000000 in
set_option maxRecDepth 100000 in
theorem head_fold.calls (k : Nat) (a0 : ByteArray) (a1 : Int) (r : Int) (w : World) (h : head_fold.f k a0 a1 = some r) :
  Calls Tryd.prog 48 #[.string a0, .int .i64 a1] w fun e w' => e = .returned (.int .i64 r) ∧ Drawn0 w w' := by
 have H : (if (a0.size : Int) ≤ 78 then (some (-1)) else (head_fold.l0 k a0 (-1) a1)) = some r := h
 clear h
 by_cases c3 : (a0.size : Int) ≤ 78
 ·rw [if_pos c3] at H
  have c3b0 : decide ((a0.size : Int) ≤ 78) = true := decide_eq_true c3
  have c3b1 : decide (a0.size ≤ 78) = true := decide_eq_true (by omega)
  clear c3
  obtain rfl := Option.some.inj H
  go_enter Tryd.func48, Tryd.ntmps48
  go_wp2
  go_ret
  exact ⟨by first | rfl | (simp [bneNil]; done) | (simp; done) | (simp [*]; done), by repeat (first | exact Drawn0.refl _ | apply Drawn0.step)⟩
 ·rw [if_neg c3] at H
  have c3b0 : decide ((a0.size : Int) ≤ 78) = false := decide_eq_false c3
  have c3b1 : decide (a0.size ≤ 78) = false := decide_eq_false (by omega)
  clear c3
  have H' := Aside0.mk H
  clear H
  go_enter Tryd.func48, Tryd.ntmps48
  go_wp2
  go_loopg [5, 6] k (fun kq v5 v6 w' => ∃ (x5_1 : Int) (x6_1 : Int), v5 = .int .i64 x5_1 ∧ v6 = .int .i64 x6_1 ∧ Aside0 (head_fold.l0 kq a0 x5_1 x6_1 = some r) ∧ Aside0 (kq ≤ k) ∧ Drawn0 w w')
  case atStart => exact ⟨((-1)), (a1), (by first | rfl | (simp; done) | (simp [*]; done)), (by first | rfl | (simp; done) | (simp [*]; done)), H', ⟨Nat.le_refl _⟩, by repeat (first | exact Drawn0.refl _ | apply Drawn0.step)⟩
  case round =>
   clear H'
   try clear p2
   try clear c3
   try clear c3b0
   try clear c3b1
   obtain ⟨x5_1, x6_1, rfl, rfl, HA, HK1, ⟨m1, rfl⟩⟩ := hrel
   cases gk with
   | zero => exact absurd HA.out (by simp [head_fold.l0])
   | succ k1 =>
    have H := HA.out
    clear HA
    simp only [head_fold.l0] at H
    by_cases c4 : x6_1 < (a0.size : Int)
    ·rw [if_pos c4] at H
     have c4b0 : decide (x6_1 < (a0.size : Int)) = true := decide_eq_true c4
     clear c4
     have HC5 := Aside0.mk H
     clear H
     go_upto_region 7 with (fail)
     go_cut [35] (fun v35 wc => ∃ (kq : Nat) (x35_4 : Bool), v35 = .bool x35_4 ∧ Aside0 (head_fold.j1 kq a0 x5_1 x6_1 x35_4 = some r) ∧ Aside0 (kq ≤ k1) ∧ Drawn0 w wc)
     case first =>
      have H := HC5.out
      clear HC5
      by_cases c6 : 0 ≤ x6_1
      ·rw [if_pos c6] at H
       have c6b0 : decide (0 ≤ x6_1) = true := decide_eq_true c6
       clear c6
       (first | rw [c6b0] | (simp only [i64_w, i32_w]; rw [c6b0]) | skip)
       by_cases c8 : (bt a0 x6_1) = 32
       ·rw [if_pos c8] at H
        have c8b0 : ((bt a0 x6_1) == 32) = true := beq_iff_eq.mpr c8
        have c8b1 : ((bt a0 x6_1) != 32) = false := bne_eq_false_iff_eq.mpr c8
        clear c8
        obtain ⟨ji9, hji9⟩ : ∃ j_ : Int, (wrap64 (x6_1 - 1)) = j_ := ⟨_, rfl⟩
        replace H : (if 0 ≤ (ji9) then (if (ji9) < (a0.size : Int) then (if (bt a0 (ji9)) = 44 then (if x5_1 ≥ 0 then (head_fold.j1 k1 a0 x5_1 x6_1 (decide (x6_1 > 78))) else (head_fold.j1 k1 a0 x5_1 x6_1 false)) else (head_fold.j1 k1 a0 x5_1 x6_1 true)) else (none)) else (none)) = some r := by first | (rw [hji9] at H; exact H) | (simp only [hji9] at H ⊢; exact H)
        have hji9w : (IntKind.i64.wrap (x6_1 - 1)) = ji9 := (i64_w _).trans hji9
        by_cases c10 : 0 ≤ (ji9)
        ·rw [if_pos c10] at H
         have c10b0 : decide (0 ≤ (ji9)) = true := decide_eq_true c10
         clear c10
         by_cases c11 : (ji9) < (a0.size : Int)
         ·rw [if_pos c11] at H
          have c11b0 : decide ((ji9) < (a0.size : Int)) = true := decide_eq_true c11
          clear c11
          by_cases c13 : (bt a0 (ji9)) = 44
          ·rw [if_pos c13] at H
           have c13b0 : ((bt a0 (ji9)) == 44) = true := beq_iff_eq.mpr c13
           have c13b1 : ((bt a0 (ji9)) != 44) = false := bne_eq_false_iff_eq.mpr c13
           clear c13
           by_cases c14 : x5_1 ≥ 0
           ·rw [if_pos c14] at H
            have c14b0 : decide (0 ≤ x5_1) = true := decide_eq_true c14
            clear c14
            have H' := Aside0.mk H
            clear H
            have p7 : 0 ≤ (x6_1 : Int) := od
            have q7 : x6_1 < (a0.size : Int) := od
            have hx7 := bt_at a0 x6_1
            replace p7 := eq_true p7
            replace q7 := eq_true q7
            have p12 : 0 ≤ ((ji9) : Int) := od
            have q12 : (ji9) < (a0.size : Int) := od
            have hx12 := bt_at a0 (ji9)
            replace p12 := eq_true p12
            replace q12 := eq_true q12
            go_wp2
            go_meet
            case rel => exact ⟨_, (decide (x6_1 > 78)), (by first | rfl | (simp; done) | (simp [*]; done)), H', ⟨by have := HK1.out; first | omega | exact Nat.le_refl _⟩, by repeat (first | exact Drawn0.refl _ | apply Drawn0.step)⟩
           ·rw [if_neg c14] at H
            have c14b0 : decide (0 ≤ x5_1) = false := decide_eq_false c14
            clear c14
            have H' := Aside0.mk H
            clear H
            have p7 : 0 ≤ (x6_1 : Int) := od
            have q7 : x6_1 < (a0.size : Int) := od
            have hx7 := bt_at a0 x6_1
            replace p7 := eq_true p7
            replace q7 := eq_true q7
            have p12 : 0 ≤ ((ji9) : Int) := od
            have q12 : (ji9) < (a0.size : Int) := od
            have hx12 := bt_at a0 (ji9)
            replace p12 := eq_true p12
            replace q12 := eq_true q12
            go_wp2
            go_meet
            case rel => exact ⟨_, (false), (by first | rfl | (simp; done) | (simp [*]; done)), H', ⟨by have := HK1.out; first | omega | exact Nat.le_refl _⟩, by repeat (first | exact Drawn0.refl _ | apply Drawn0.step)⟩
          ·rw [if_neg c13] at H
           have c13b0 : ((bt a0 (ji9)) == 44) = false := beq_eq_false_iff_ne.mpr c13
           have c13b1 : ((bt a0 (ji9)) != 44) = true := bne_iff_ne.mpr c13
           have H' := Aside0.mk H
           clear H
           have p7 : 0 ≤ (x6_1 : Int) := od
           have q7 : x6_1 < (a0.size : Int) := od
           have hx7 := bt_at a0 x6_1
           replace p7 := eq_true p7
           replace q7 := eq_true q7
           have p12 : 0 ≤ ((ji9) : Int) := od
           have q12 : (ji9) < (a0.size : Int) := od
           have hx12 := bt_at a0 (ji9)
           replace p12 := eq_true p12
           replace q12 := eq_true q12
           go_wp2
           go_meet
           case rel => exact ⟨_, (true), (by first | rfl | (simp; done) | (simp [*]; done)), H', ⟨by have := HK1.out; first | omega | exact Nat.le_refl _⟩, by repeat (first | exact Drawn0.refl _ | apply Drawn0.step)⟩
         ·rw [if_neg c11] at H
          exact absurd H (by simp)
        ·rw [if_neg c10] at H
         exact absurd H (by simp)
       ·rw [if_neg c8] at H
        have c8b0 : ((bt a0 x6_1) == 32) = false := beq_eq_false_iff_ne.mpr c8
        have c8b1 : ((bt a0 x6_1) != 32) = true := bne_iff_ne.mpr c8
        have H' := Aside0.mk H
        clear H
        have p7 : 0 ≤ (x6_1 : Int) := od
        have q7 : x6_1 < (a0.size : Int) := od
        have hx7 := bt_at a0 x6_1
        replace p7 := eq_true p7
        replace q7 := eq_true q7
        go_wp2
        go_meet
        case rel => exact ⟨_, (true), (by first | rfl | (simp; done) | (simp [*]; done)), H', ⟨by have := HK1.out; first | omega | exact Nat.le_refl _⟩, by repeat (first | exact Drawn0.refl _ | apply Drawn0.step)⟩
      ·rw [if_neg c6] at H
       exact absurd H (by simp)
     case rest =>
      clear HC5
      try clear c1
      try clear p1
      try clear q1
      try clear hx1
      try clear p2
      try clear c3
      try clear c3b0
      try clear c3b1
      try clear c4
      try clear c4b0
      try clear c6
      try clear c6b0
      try clear p6
      try clear p7
      try clear q7
      try clear hx7
      try clear c8
      try clear c8b0
      try clear c8b1
      try clear c10
      try clear c10b0
      try clear c11
      try clear c11b0
      try clear p12
      try clear q12
      try clear hx12
      try clear c13
      try clear c13b0
      try clear c13b1
      try clear c14
      try clear c14b0
      try clear p12
      try clear p2
      try clear p7
      try clear q12
      try clear q7
      obtain ⟨kq, x35_4, rfl, HA, HJ4, ⟨mc4, rfl⟩⟩ := hcut
      cases kq with
      | zero => exact absurd HA.out (by simp [head_fold.j1])
      | succ kj4 =>
       have H := HA.out
       clear HA
       simp only [head_fold.j1] at H
       by_cases c15 : x35_4 = true
       ·subst c15
        have H1 : (head_fold.l0 kj4 a0 x5_1 (wrap64 (x6_1 + 1))) = some r := by rw [if_pos rfl] at H; exact H
        clear H
        have H := H1
        clear H1
        have H' := Aside0.mk H
        clear H
        go_wp2
        go_roundg kj4
        case measure => have := HK1.out; have := HJ4.out; omega
        case rel => exact ⟨(x5_1), (wrap64 (x6_1 + 1)), (by first | rfl | (simp; done) | (simp [*]; done)), (by first | rfl | (simp; done) | (simp [*]; done)), H', ⟨by have := HK1.out; have := HJ4.out; omega⟩, by repeat (first | exact Drawn0.refl _ | apply Drawn0.step)⟩
       ·replace c15 := Bool.eq_false_iff.mpr c15
        subst c15
        have H1 : (if x6_1 > 78 then (some x6_1) else (head_fold.l0 kj4 a0 x6_1 (wrap64 (x6_1 + 1)))) = some r := by rw [if_neg (show ¬ (false = true) by decide)] at H; exact H
        clear H
        have H := H1
        clear H1
        by_cases c16 : x6_1 > 78
        ·rw [if_pos c16] at H
         have c16b0 : decide (78 < x6_1) = true := decide_eq_true c16
         clear c16
         obtain rfl := Option.some.inj H
         go_wp2
         go_ret
         exact ⟨by first | rfl | (simp [bneNil]; done) | (simp; done) | (simp [*]; done), by repeat (first | exact Drawn0.refl _ | apply Drawn0.step)⟩
        ·rw [if_neg c16] at H
         have c16b0 : decide (78 < x6_1) = false := decide_eq_false c16
         clear c16
         have H' := Aside0.mk H
         clear H
         go_wp2
         go_roundg kj4
         case measure => have := HK1.out; have := HJ4.out; omega
         case rel => exact ⟨(x6_1), (wrap64 (x6_1 + 1)), (by first | rfl | (simp; done) | (simp [*]; done)), (by first | rfl | (simp; done) | (simp [*]; done)), H', ⟨by have := HK1.out; have := HJ4.out; omega⟩, by repeat (first | exact Drawn0.refl _ | apply Drawn0.step)⟩
    ·rw [if_neg c4] at H
     have c4b0 : decide (x6_1 < (a0.size : Int)) = false := decide_eq_false c4
     clear c4
     obtain rfl := Option.some.inj H
     go_wp2
     go_ret
     exact ⟨by first | rfl | (simp [bneNil]; done) | (simp; done) | (simp [*]; done), by repeat (first | exact Drawn0.refl _ | apply Drawn0.step)⟩

/-! ### head_Lay: function 14 -/
mutual
def head_Lay.j0 : Nat → ByteArray → ByteArray → Bool → Option (ByteArray × ByteArray × ByteArray × Int)
 | 0, _, _, _ => none
 | k + 1, x0, x1, x19 => if x19 = true then (some ((⟨#[]⟩ : ByteArray), (⟨#[]⟩ : ByteArray), (⟨#[]⟩ : ByteArray), 5)) else (if x0.size + 2 ≤ 9223372036854775807 then (if (x0 ++ (⟨#[58, 32]⟩ : ByteArray)).size + x1.size ≤ 9223372036854775807 then ((head_fold.f k ((x0 ++ (⟨#[58, 32]⟩ : ByteArray)) ++ x1) (wrap64 ((x0.size : Int) + 3))).bind fun t203 => (head_Lay.l0 k ([] : List ByteArray) ((x0 ++ (⟨#[58, 32]⟩ : ByteArray)) ++ x1) t203)) else (none)) else (none))
def head_Lay.l0 : Nat → List ByteArray → ByteArray → Int → Option (ByteArray × ByteArray × ByteArray × Int)
 | 0, _, _, _ => none
 | k + 1, x6, x7, x9 => if x9 ≥ 0 then (if 0 ≤ x9 then (if x9 ≤ (x7.size : Int) then (if x6.length < 8796093022208 then ((head_fold.f k (x7.extract (x9 : Int).toNat x7.size) 2).bind fun t207 => (head_Lay.l0 k (x6 ++ [x7.extract 0 (x9 : Int).toNat]) (x7.extract (x9 : Int).toNat x7.size) t207)) else (none)) else (none)) else (none)) else (if x6.length < 8796093022208 then ((head_field.f k (x6 ++ [x7])).bind fun bt211 => (some (bt211.1, bt211.2.1, bt211.2.2.1, 0))) else (none))
end
def head_Lay.f (k : Nat) (a0 : ByteArray) (a1 : ByteArray) : Option (ByteArray × ByteArray × ByteArray × Int) := (head_named.f k a0).bind fun t201 => (if t201 = true then ((head_byteful.f k a1).bind fun t202 => (head_Lay.j0 k a0 a1 (!t202))) else (head_Lay.j0 k a0 a1 true))
theorem head_Lay.mono_l : ∀ k, (∀ y0 y1 y2, LeO (head_Lay.j0 k y0 y1 y2) (head_Lay.j0 (k + 1) y0 y1 y2)) ∧ (∀ y0 y1 y2, LeO (head_Lay.l0 k y0 y1 y2) (head_Lay.l0 (k + 1) y0 y1 y2))
 | 0 => ⟨fun _ _ _ r h => by simp [head_Lay.j0] at h, fun _ _ _ r h => by simp [head_Lay.l0] at h⟩
 | k + 1 => by
  obtain ⟨ih0, ih1⟩ := head_Lay.mono_l k
  refine ⟨?_, ?_⟩
  ·intro y0 y1 y2
   unfold head_Lay.j0
   repeat' first
   | (with_reducible exact ih0 _ _ _)
   | (with_reducible exact ih1 _ _ _)
   | (with_reducible exact head_byteful.mono _ _)
   | (with_reducible exact head_field.mono _ _)
   | (with_reducible exact head_fold.mono _ _ _)
   | (with_reducible exact head_named.mono _ _)
   | (with_reducible exact LeO.refl _)
   | (with_reducible exact LeO.none _)
   | (with_reducible refine LeO.ite ?_ ?_)
   | (with_reducible refine LeO.bind ?_ (fun _ => ?_))
   | exact ih0 _ _ _
   | exact ih1 _ _ _
   | exact head_byteful.mono _ _
   | exact head_field.mono _ _
   | exact head_fold.mono _ _ _
   | exact head_named.mono _ _
   | exact LeO.none _
   | refine LeO.ite ?_ ?_
   | refine LeO.bind ?_ (fun _ => ?_)
  ·intro y0 y1 y2
   unfold head_Lay.l0
   repeat' first
   | (with_reducible exact ih0 _ _ _)
   | (with_reducible exact ih1 _ _ _)
   | (with_reducible exact head_byteful.mono _ _)
   | (with_reducible exact head_field.mono _ _)
   | (with_reducible exact head_fold.mono _ _ _)
   | (with_reducible exact head_named.mono _ _)
   | (with_reducible exact LeO.refl _)
   | (with_reducible exact LeO.none _)
   | (with_reducible refine LeO.ite ?_ ?_)
   | (with_reducible refine LeO.bind ?_ (fun _ => ?_))
   | exact ih0 _ _ _
   | exact ih1 _ _ _
   | exact head_byteful.mono _ _
   | exact head_field.mono _ _
   | exact head_fold.mono _ _ _
   | exact head_named.mono _ _
   | exact LeO.none _
   | refine LeO.ite ?_ ?_
   | refine LeO.bind ?_ (fun _ => ?_)
theorem head_Lay.mono : ∀ a0 a1 k, LeO (head_Lay.f k a0 a1) (head_Lay.f (k + 1) a0 a1) := by
 intro a0 a1 k
 obtain ⟨ih0, ih1⟩ := head_Lay.mono_l k
 unfold head_Lay.f
 repeat' first
   | (with_reducible exact ih0 _ _ _)
   | (with_reducible exact ih1 _ _ _)
   | (with_reducible exact head_byteful.mono _ _)
   | (with_reducible exact head_field.mono _ _)
   | (with_reducible exact head_fold.mono _ _ _)
   | (with_reducible exact head_named.mono _ _)
   | (with_reducible exact LeO.refl _)
   | (with_reducible exact LeO.none _)
   | (with_reducible refine LeO.ite ?_ ?_)
   | (with_reducible refine LeO.bind ?_ (fun _ => ?_))
   | exact ih0 _ _ _
   | exact ih1 _ _ _
   | exact head_byteful.mono _ _
   | exact head_field.mono _ _
   | exact head_fold.mono _ _ _
   | exact head_named.mono _ _
   | exact LeO.none _
   | refine LeO.ite ?_ ?_
   | refine LeO.bind ?_ (fun _ => ?_)
set_option maxHeartbeats 8000000 in
set_option maxRecDepth 100000 in
theorem head_Lay.calls (k : Nat) (a0 : ByteArray) (a1 : ByteArray) (r1 : ByteArray) (r2 : ByteArray) (r3 : ByteArray) (r4 : Int) (w : World) (hG : Glob w) (h : head_Lay.f k a0 a1 = some (r1, r2, r3, r4)) :
  Calls Tryd.prog 14 #[.string a0, .string a1] w fun e w' => e = .returned (.tuple #[.agg #[.string r1, .string r2, .string r3], .int .i64 r4]) ∧ Below w.heap.size w w' := by
 have hu41 := Tryd.underlying41
 have HB := Aside0.mk (Below.refl w.heap.size w)
 have HG := Aside0.mk hG
 clear hG
 have H : ((head_named.f k a0).bind fun t201 => (if t201 = true then ((head_byteful.f k a1).bind fun t202 => (head_Lay.j0 k a0 a1 (!t202))) else (head_Lay.j0 k a0 a1 true))) = some (r1, r2, r3, r4) := h
 clear h
 have HC3 := Aside0.mk H
 clear H
 go_enter Tryd.func14, Tryd.ntmps14
 go_upto_region 1 with (first | ((with_reducible refine gate_dst (N := 4) rfl ?_); refine box_event ?hg (N := 4) ?hd (cs := #[.string (⟨#[]⟩ : ByteArray), .string (⟨#[]⟩ : ByteArray), .string (⟨#[]⟩ : ByteArray)]) (t := 41) ?hr ?_; (case hd => rfl); (case hg => rfl); (case hr => first | (go_simp; done) | (go_simp; rfl)); intro gb200 hg w4 hbox hb; have n0_ := Aside0.mk (below_step bl hb); have n1_ := Aside0.mk (hbox); have n2_ := Aside0.mk ((by rw [hg]; exact (below_size bl) : w.heap.size ≤ gb200)); have n3_ := Aside0.mk ((by rw [hg]; exact (below_size bl) : w.heap.size ≤ gb200)); clear HB; have HB := n0_; have BK200 := n1_; have GW200 := n2_; have GE200 := n3_; clear n0_ n1_ n2_ n3_; clear hb hbox hg))
 (try simp only [Act.put, List.setIfInBounds_toArray, List.set_cons_zero, List.set_cons_succ])
 go_cut [19] (fun v19 wc => ∃ (kq : Nat) (x19_2 : Bool), v19 = .bool x19_2 ∧ Aside0 (head_Lay.j0 kq a0 a1 x19_2 = some (r1, r2, r3, r4)) ∧ Aside0 (kq ≤ k) ∧ Aside0 (wc.heap[gb200]? = some (.cells #[.string (⟨#[]⟩ : ByteArray), .string (⟨#[]⟩ : ByteArray), .string (⟨#[]⟩ : ByteArray)] 41 (0, 0))) ∧ Aside0 (Below w.heap.size w wc))
 case first =>
  have H := HC3.out
  clear HC3
  replace H := Option.bind_eq_some_iff.mp H
  obtain ⟨t201, A50, H⟩ := H
  replace H : (if t201 = true then ((head_byteful.f k a1).bind fun t202 => (head_Lay.j0 k a0 a1 (!t202))) else (head_Lay.j0 k a0 a1 true)) = some (r1, r2, r3, r4) := H
  have A5 := Aside0.mk A50
  clear A50
  by_cases c6 : t201 = true
  ·subst c6
   have H1 : ((head_byteful.f k a1).bind fun t202 => (head_Lay.j0 k a0 a1 (!t202))) = some (r1, r2, r3, r4) := by rw [if_pos rfl] at H; exact H
   clear H
   have H := H1
   clear H1
   replace H := Option.bind_eq_some_iff.mp H
   obtain ⟨t202, A70, H⟩ := H
   replace H : (head_Lay.j0 k a0 a1 (!t202)) = some (r1, r2, r3, r4) := H
   have A7 := Aside0.mk A70
   clear A70
   have H' := Aside0.mk H
   clear H
   go_wp2_with (first | ((with_reducible refine gate_callee (f := 46) rfl ?_); refine goesL_ (some 13) rfl rfl Tryd.func46 (by kernel_rfl) rfl #[.string a0] rfl ml ?_; (with_reducible refine (head_named.calls k a0 true _ A5.out).mono ?_); rintro e w' ⟨rfl, ⟨nd, rfl⟩⟩; refine ⟨_, rfl, ?_⟩) | (go_at_call 47; (with_reducible refine (head_byteful.calls k a1 t202 _ A7.out).mono ?_); rintro e w' ⟨rfl, ⟨nd, rfl⟩⟩))
   go_meet
   case rel => exact ⟨_, (!t202), (by first | rfl | (simp; done) | (simp [*]; done)), H', ⟨by first | omega | exact Nat.le_refl _⟩, ⟨by (with_reducible repeat (first | refine blk_drewN ?_ _ | refine blk_drew ?_ | refine blk_alloc ?_ _)); exact BK200.out⟩, ⟨by repeat (first | (with_reducible first | exact HB.out | apply below_alloc | apply pw_below_drewN | apply below_drew1 | refine below_set ?_ GE200.out) | exact HB.out)⟩⟩
  ·replace c6 := Bool.eq_false_iff.mpr c6
   subst c6
   have H1 : (head_Lay.j0 k a0 a1 true) = some (r1, r2, r3, r4) := by rw [if_neg (show ¬ (false = true) by decide)] at H; exact H
   clear H
   have H := H1
   clear H1
   have H' := Aside0.mk H
   clear H
   go_wp2_with (first | ((with_reducible refine gate_callee (f := 46) rfl ?_); refine goesL_ (some 13) rfl rfl Tryd.func46 (by kernel_rfl) rfl #[.string a0] rfl ml ?_; (with_reducible refine (head_named.calls k a0 false _ A5.out).mono ?_); rintro e w' ⟨rfl, ⟨nd, rfl⟩⟩; refine ⟨_, rfl, ?_⟩))
   go_meet
   case rel => exact ⟨_, (true), (by first | rfl | (simp; done) | (simp [*]; done)), H', ⟨by first | omega | exact Nat.le_refl _⟩, ⟨by (with_reducible repeat (first | refine blk_drewN ?_ _ | refine blk_drew ?_ | refine blk_alloc ?_ _)); exact BK200.out⟩, ⟨by repeat (first | (with_reducible first | exact HB.out | apply below_alloc | apply pw_below_drewN | apply below_drew1 | refine below_set ?_ GE200.out) | exact HB.out)⟩⟩
 case rest =>
  clear HC3
  try clear c1
  try clear p2
  try clear c4
  try clear c6
  obtain ⟨kq, x19_2, rfl, HA, HJ2, BK200, HB⟩ := hcut
  cases kq with
  | zero => exact absurd HA.out (by simp [head_Lay.j0])
  | succ kj2 =>
   have H := HA.out
   clear HA
   simp only [head_Lay.j0] at H
   by_cases c8 : x19_2 = true
   ·subst c8
    have H1 : (some ((⟨#[]⟩ : ByteArray), (⟨#[]⟩ : ByteArray), (⟨#[]⟩ : ByteArray), 5)) = some (r1, r2, r3, r4) := by rw [if_pos rfl] at H; exact H
    clear H
    have H := H1
    clear H1
    simp only [Option.some.injEq, Prod.mk.injEq] at H
    obtain ⟨rfl, rfl, rfl, rfl⟩ := H
    have hcz9_0 : wc.cell? ⟨gb200, 0, none⟩ = some (.string (⟨#[]⟩ : ByteArray)) := (blk_cell BK200.out 0).trans rfl
    have hcz9_1 : wc.cell? ⟨gb200, 1, none⟩ = some (.string (⟨#[]⟩ : ByteArray)) := (blk_cell BK200.out 1).trans rfl
    have hcz9_2 : wc.cell? ⟨gb200, 2, none⟩ = some (.string (⟨#[]⟩ : ByteArray)) := (blk_cell BK200.out 2).trans rfl
    have hfz9_0 := blk_frozen BK200.out 0
    have hfz9_1 := blk_frozen BK200.out 1
    have hfz9_2 := blk_frozen BK200.out 2
    go_wp2
    refine bodyPost_ret (results_ct rfl _ _ gb200 41 #[.string (⟨#[]⟩ : ByteArray), .string (⟨#[]⟩ : ByteArray), .string (⟨#[]⟩ : ByteArray)] (0, 0) _ rfl (by (with_reducible repeat (first | refine blk_drewN ?_ _ | refine blk_drew ?_ | refine blk_alloc ?_ _)); refine blk_put (cs := #[.string (⟨#[]⟩ : ByteArray), .string (⟨#[]⟩ : ByteArray), .string (⟨#[]⟩ : ByteArray)]) ?_ 2 _ rfl; (with_reducible repeat (first | refine blk_drewN ?_ _ | refine blk_drew ?_ | refine blk_alloc ?_ _)); refine blk_put (cs := #[.string (⟨#[]⟩ : ByteArray), .string (⟨#[]⟩ : ByteArray), .string (⟨#[]⟩ : ByteArray)]) ?_ 1 _ rfl; (with_reducible repeat (first | refine blk_drewN ?_ _ | refine blk_drew ?_ | refine blk_alloc ?_ _)); refine blk_put (cs := #[.string (⟨#[]⟩ : ByteArray), .string (⟨#[]⟩ : ByteArray), .string (⟨#[]⟩ : ByteArray)]) ?_ 0 _ rfl; (with_reducible repeat (first | refine blk_drewN ?_ _ | refine blk_drew ?_ | refine blk_alloc ?_ _)); exact BK200.out) Tryd.underlying41 rfl (by kernel_rfl)) rfl ?_
    exact ⟨by first | rfl | (simp [bneNil]; done) | (simp [errW_none, errW_some] <;> rfl) | (simp [*, errW_none, errW_some] <;> rfl), by repeat (first | (with_reducible first | exact HB.out | apply below_alloc | apply pw_below_drewN | apply below_drew1 | refine below_set ?_ GE200.out) | exact HB.out)⟩
   ·replace c8 := Bool.eq_false_iff.mpr c8
    subst c8
    have H1 : (if a0.size + 2 ≤ 9223372036854775807 then (if (a0 ++ (⟨#[58, 32]⟩ : ByteArray)).size + a1.size ≤ 9223372036854775807 then ((head_fold.f kj2 ((a0 ++ (⟨#[58, 32]⟩ : ByteArray)) ++ a1) (wrap64 ((a0.size : Int) + 3))).bind fun t203 => (head_Lay.l0 kj2 ([] : List ByteArray) ((a0 ++ (⟨#[58, 32]⟩ : ByteArray)) ++ a1) t203)) else (none)) else (none)) = some (r1, r2, r3, r4) := by rw [if_neg (show ¬ (false = true) by decide)] at H; exact H
    clear H
    have H := H1
    clear H1
    by_cases c10 : a0.size + 2 ≤ 9223372036854775807
    ·rw [if_pos c10] at H
     have c10b0 := eq_true c10
     have c10b1 : decide (a0.size + 2 ≤ 9223372036854775807) = true := decide_eq_true c10
     try have c10b2 : (9223372036854775807 < a0.size + 2) = False := eq_false (Nat.not_lt.2 c10)
     by_cases c11 : (a0 ++ (⟨#[58, 32]⟩ : ByteArray)).size + a1.size ≤ 9223372036854775807
     ·rw [if_pos c11] at H
      have c11b0 := eq_true c11
      have c11b1 : decide ((a0 ++ (⟨#[58, 32]⟩ : ByteArray)).size + a1.size ≤ 9223372036854775807) = true := decide_eq_true c11
      try have c11b2 : (9223372036854775807 < (a0 ++ (⟨#[58, 32]⟩ : ByteArray)).size + a1.size) = False := eq_false (Nat.not_lt.2 c11)
      try (have c11b2y := c11b2; rw [ByteArray.size_append] at c11b2y)
      try have c11b2z : (9223372036854775807 < a0.size + 2 + a1.size) = False := eq_false (fun h_ => by have g_ := c11; simp only [ByteArray.size_append, show (⟨#[58, 32]⟩ : ByteArray).size = 2 from rfl] at g_; omega)
      replace H := Option.bind_eq_some_iff.mp H
      obtain ⟨t203, A120, H⟩ := H
      replace H : (head_Lay.l0 kj2 ([] : List ByteArray) ((a0 ++ (⟨#[58, 32]⟩ : ByteArray)) ++ a1) t203) = some (r1, r2, r3, r4) := H
      have A12 := Aside0.mk A120
      clear A120
      have H' := Aside0.mk H
      clear H
      go_wp2_with (first | ((with_reducible refine gate_callee (f := 48) rfl ?_); refine goesL_ (some 30) rfl rfl Tryd.func48 (by kernel_rfl) rfl #[.string ((a0 ++ (⟨#[58, 32]⟩ : ByteArray)) ++ a1), .int .i64 (wrap64 ((a0.size : Int) + 3))] rfl ml ?_; (with_reducible refine (head_fold.calls kj2 ((a0 ++ (⟨#[58, 32]⟩ : ByteArray)) ++ a1) (wrap64 ((a0.size : Int) + 3)) t203 _ A12.out).mono ?_); rintro e w' ⟨rfl, ⟨nd, rfl⟩⟩; refine ⟨_, rfl, ?_⟩))
      go_loopg [6, 7, 9] kj2 (fun kq v6 v7 v9 w' => ∃ (x6_2 : List ByteArray) (x7_2 : ByteArray) (x9_2 : Int), v7 = .string x7_2 ∧ v9 = .int .i64 x9_2 ∧ Aside0 (head_Lay.l0 kq x6_2 x7_2 x9_2 = some (r1, r2, r3, r4)) ∧ Aside0 (kq ≤ kj2) ∧ Aside0 (Kd.R Kd.string 9 w' w.heap.size (fun _ => True) v6 x6_2) ∧ Aside0 (w'.heap[gb200]? = some (.cells #[.string (⟨#[]⟩ : ByteArray), .string (⟨#[]⟩ : ByteArray), .string (⟨#[]⟩ : ByteArray)] 41 (0, 0))) ∧ Aside0 (Below w.heap.size w w'))
      case atStart => exact ⟨(([] : List ByteArray)), ((a0 ++ (⟨#[58, 32]⟩ : ByteArray)) ++ a1), (t203), (by first | rfl | (simp; done) | (simp [*]; done)), (by first | rfl | (simp; done) | (simp [*]; done)), H', ⟨Nat.le_refl _⟩, ⟨by first | exact Kd.R_nil _ _ _ _ _ | exact Kd.N_nil _ _ _ _ _ | exact Kd.V_nil _ _ _ _ _ | exact Kd.Q_nil _ _ _ _ _ | exact Kd.S_nil _ _ _ _ _⟩, ⟨by (with_reducible repeat (first | refine blk_drewN ?_ _ | refine blk_drew ?_ | refine blk_alloc ?_ _)); exact BK200.out⟩, ⟨by repeat (first | (with_reducible first | exact HB.out | apply below_alloc | apply pw_below_drewN | apply below_drew1 | refine below_set ?_ GE200.out) | exact HB.out)⟩⟩
      case round =>
       clear H'
       try clear c1
       try clear p2
       try clear c4
       try clear c6
       try clear p6
       try clear c8
       try clear c10
       try clear c10b0
       try clear c10b1
       try clear c10b2
       try clear c11
       try clear c11b0
       try clear c11b1
       try clear c11b2
       try clear hcz9_0
       try clear hcz9_1
       try clear hcz9_2
       try clear hfz9_0
       try clear hfz9_1
       try clear hfz9_2
       try clear p2
       obtain ⟨x6_2, x7_2, x9_2, rfl, rfl, HA, HK2, HO_6, BK200, HB⟩ := hrel
       cases gk with
       | zero => exact absurd HA.out (by simp [head_Lay.l0])
       | succ k2 =>
        have H := HA.out
        clear HA
        simp only [head_Lay.l0] at H
        by_cases c13 : x9_2 ≥ 0
        ·rw [if_pos c13] at H
         have c13b0 : decide (0 ≤ x9_2) = true := decide_eq_true c13
         clear c13
         by_cases c14 : 0 ≤ x9_2
         ·rw [if_pos c14] at H
          have c14b0 := eq_true c14
          have c14b1 : decide (0 ≤ x9_2) = true := decide_eq_true c14
          clear c14
          by_cases c15 : x9_2 ≤ (x7_2.size : Int)
          ·rw [if_pos c15] at H
           have c15b0 := eq_true c15
           have c15b1 : decide (x9_2 ≤ (x7_2.size : Int)) = true := decide_eq_true c15
           clear c15
           by_cases c16 : x6_2.length < 8796093022208
           ·rw [if_pos c16] at H
            have LMc16 := Aside0.mk c16
            clear c16
            obtain ⟨y204, hy204⟩ : ∃ y_ : List ByteArray, y_ = (x6_2 ++ [x7_2.extract 0 (x9_2 : Int).toNat]) := ⟨_, rfl⟩
            replace H : ((head_fold.f k2 (x7_2.extract (x9_2 : Int).toNat x7_2.size) 2).bind fun t207 => (head_Lay.l0 k2 y204 (x7_2.extract (x9_2 : Int).toNat x7_2.size) t207)) = some (r1, r2, r3, r4) := by first | (rw [hy204]; with_reducible exact H) | (have H2_ := (Option.bind_some _ _).symm.trans H; rw [hy204]; with_reducible exact H2_) | (have H2_ := (Option.bind_some _ _).symm.trans H; with_reducible exact H2_) | with_reducible exact H | (rw [hy204]; exact H) | exact H
            have Ny204 := Aside0.mk hy204
            clear hy204
            have c17b0 := eq_true (od : 0 ≤ x9_2)
            have c18b0 := eq_true (od : x9_2 ≤ (x7_2.size : Int))
            replace H := Option.bind_eq_some_iff.mp H
            obtain ⟨t207, A190, H⟩ := H
            replace H : (head_Lay.l0 k2 y204 (x7_2.extract (x9_2 : Int).toNat x7_2.size) t207) = some (r1, r2, r3, r4) := H
            have A19 := Aside0.mk A190
            clear A190
            have H' := Aside0.mk H
            clear H
            go_wp2_with (first | ((with_reducible refine gate_builtin (b := .append) (xs := #[.tmp 36, .tmp 40]) rfl ?_); at_builtin; refine Kd.R_append Kd.string (w0 := w) w.heap.size rfl (.tmp 36) (.tmp 40) 37 9 (.string ⟨#[]⟩) 16 rfl Tryd.underlying37 info9 rfl (by decide) (by omega) u6 x6_2 (x7_2.extract 0 (x9_2 : Int).toNat) [.string (x7_2.extract 0 (x9_2 : Int).toNat)] (fun _ => True) (fun _ => False) rfl rfl ?aP (fun _ hk => hk.elim) ?aF ?aO ?aB ?aS ?aL ?_; (case aP => exact rfl); (case aB => exact bl); (case aF => exact (fun _ _ => trivial)); (case aO => exact (kr HO_6.out)); (case aS => exact (below_size bl)); (case aL => have := LMc16.out; omega); intro v205 w20 ho hb hg hat; rw [← Ny204.out] at ho; have n0_ := Aside0.mk (blk_grown (g := gb200) (o := .cells #[.string (⟨#[]⟩ : ByteArray), .string (⟨#[]⟩ : ByteArray), .string (⟨#[]⟩ : ByteArray)] 41 (0, 0)) (bk BK200.out) hg (Kd.R_ne HO_6.out BK200.out (by decide))); have n1_ := Aside0.mk (hb); have n2_ := Aside0.mk (ho); clear BK200; clear HB; clear HO_6; have BK200 := n0_; have HB := n1_; have HO206 := n2_; clear n0_ n1_ n2_; clear ho hb hg hat) | ((with_reducible refine gate_callee (f := 48) rfl ?_); refine goesL_ (some 35) rfl rfl Tryd.func48 (by kernel_rfl) rfl #[.string (x7_2.extract (x9_2 : Int).toNat x7_2.size), .int .i64 2] rfl ml ?_; (with_reducible refine (head_fold.calls k2 (x7_2.extract (x9_2 : Int).toNat x7_2.size) 2 t207 _ A19.out).mono ?_); rintro e w' ⟨rfl, ⟨nd, rfl⟩⟩; refine ⟨_, rfl, ?_⟩))
            go_roundg k2
            case measure => have := HJ2.out; have := HK2.out; omega
            case rel => exact ⟨(y204), (x7_2.extract (x9_2 : Int).toNat x7_2.size), (t207), (by first | rfl | (simp; done) | (simp [*]; done)), (by first | rfl | (simp; done) | (simp [*]; done)), H', ⟨by have := HJ2.out; have := HK2.out; omega⟩, ⟨by (with_reducible repeat (first | apply Kd.R_alloc | apply Kd.R_drewN | apply Kd.R_drew)); exact HO206.out⟩, ⟨by (with_reducible repeat (first | refine blk_drewN ?_ _ | refine blk_drew ?_ | refine blk_alloc ?_ _)); exact BK200.out⟩, ⟨by repeat (first | (with_reducible first | exact HB.out | apply below_alloc | apply pw_below_drewN | apply below_drew1 | refine below_set ?_ GE200.out) | exact HB.out)⟩⟩
           ·rw [if_neg c16] at H
            exact absurd H (by simp)
          ·rw [if_neg c15] at H
           exact absurd H (by simp)
         ·rw [if_neg c14] at H
          exact absurd H (by simp)
        ·rw [if_neg c13] at H
         have c13b0 : decide (0 ≤ x9_2) = false := decide_eq_false c13
         clear c13
         by_cases c21 : x6_2.length < 8796093022208
         ·rw [if_pos c21] at H
          have LMc21 := Aside0.mk c21
          clear c21
          obtain ⟨y208, hy208⟩ : ∃ y_ : List ByteArray, y_ = (x6_2 ++ [x7_2]) := ⟨_, rfl⟩
          replace H : ((head_field.f k2 y208).bind fun bt211 => (some (bt211.1, bt211.2.1, bt211.2.2.1, 0))) = some (r1, r2, r3, r4) := by first | (rw [hy208]; with_reducible exact H) | (have H2_ := (Option.bind_some _ _).symm.trans H; rw [hy208]; with_reducible exact H2_) | (have H2_ := (Option.bind_some _ _).symm.trans H; with_reducible exact H2_) | with_reducible exact H | (rw [hy208]; exact H) | exact H
          have Ny208 := Aside0.mk hy208
          clear hy208
          replace H := Option.bind_eq_some_iff.mp H
          obtain ⟨⟨t211, t212, t213, t214⟩, A220, H⟩ := H
          replace H : (some (t211, t212, t213, 0)) = some (r1, r2, r3, r4) := H
          have A22 := Aside0.mk A220
          clear A220
          simp only [Option.some.injEq, Prod.mk.injEq] at H
          obtain ⟨rfl, rfl, rfl, rfl⟩ := H
          go_wp2_with (first | ((with_reducible refine gate_builtin (b := .append) (xs := #[.tmp 46, .tmp 48]) rfl ?_); at_builtin; refine Kd.R_append Kd.string (w0 := w) w.heap.size rfl (.tmp 46) (.tmp 48) 37 9 (.string ⟨#[]⟩) 16 rfl Tryd.underlying37 info9 rfl (by decide) (by omega) u6 x6_2 x7_2 [.string x7_2] (fun _ => True) (fun _ => False) rfl rfl ?aP (fun _ hk => hk.elim) ?aF ?aO ?aB ?aS ?aL ?_; (case aP => exact rfl); (case aB => exact bl); (case aF => exact (fun _ _ => trivial)); (case aO => exact (kr HO_6.out)); (case aS => exact (below_size bl)); (case aL => have := LMc21.out; omega); intro v209 w23 ho hb hg hat; rw [← Ny208.out] at ho; have n0_ := Aside0.mk (blk_grown (g := gb200) (o := .cells #[.string (⟨#[]⟩ : ByteArray), .string (⟨#[]⟩ : ByteArray), .string (⟨#[]⟩ : ByteArray)] 41 (0, 0)) (bk BK200.out) hg (Kd.R_ne HO_6.out BK200.out (by decide))); have n1_ := Aside0.mk (hb); have n2_ := Aside0.mk (ho); clear BK200; clear HB; clear HO_6; have BK200 := n0_; have HB := n1_; have HO210 := n2_; clear n0_ n1_ n2_; clear ho hb hg hat; obtain ⟨Ao24, co24, eo24⟩ := Kd.R_slice HO210.out; subst eo24) | ((with_reducible refine gate_callee (f := 42) rfl ?_); refine goesL_ (some 50) rfl rfl Tryd.func42 (by kernel_rfl) rfl #[.slice Ao24 y208.length co24] rfl ml ?_; (with_reducible refine (head_field.calls k2 _ _ y208 t211 t212 t213 t214 _ ?side1 ?side2 ?side3 A22.out).mono ?_); (case side1 => repeat (first | exact (Kd.R_reads' HO210.out).2.2 | (with_reducible refine Kd.C_alloc ?_ _) | (with_reducible refine Kd.C_drewN ?_ _) | (with_reducible refine Kd.C_drew ?_))); (case side2 => exact (Kd.R_reads' HO210.out).2.1); (case side3 => exact Glob.below HG.out bl); rintro e w25 ⟨rfl, hb⟩; refine ⟨_, rfl, ?_⟩; have n0_ := Aside0.mk (Kd.R_below (kr HO210.out) hb); have n1_ := Aside0.mk (kb BK200.out hb); have n2_ := Aside0.mk (below_step bl hb); clear HO210; clear BK200; clear HB; have HO210 := n0_; have BK200 := n1_; have HB := n2_; clear n0_ n1_ n2_; (try clear hb); (try clear hb2); (try clear hk); (try clear hi)) | ((with_reducible refine gate_dst (N := 10) rfl ?_); refine box_event ?hg (N := 10) ?hd (cs := #[.string (⟨#[]⟩ : ByteArray), .string (⟨#[]⟩ : ByteArray), .string (⟨#[]⟩ : ByteArray)]) (t := 41) ?hr ?_; (case hd => rfl); (case hg => rfl); (case hr => first | (go_simp; done) | (go_simp; rfl)); intro gb215 hg w26 hbox hb; have n0_ := Aside0.mk (Kd.R_below (kr HO210.out) hb); have n1_ := Aside0.mk (kb BK200.out hb); have n2_ := Aside0.mk (below_step bl hb); have n3_ := Aside0.mk (hbox); have n4_ := Aside0.mk ((by rw [hg]; exact (below_size bl) : w.heap.size ≤ gb215)); have n5_ := Aside0.mk ((by rw [hg]; exact (below_size bl) : w.heap.size ≤ gb215)); have n6_ := Aside0.mk ((by rw [hg]; exact Nat.ne_of_lt (blk_lt (bk BK200.out)) : gb200 ≠ gb215)); have n7_ := Aside0.mk ((by rw [hg]; exact Nat.ne_of_gt (blk_lt (bk BK200.out)) : gb215 ≠ gb200)); clear HO210; clear BK200; clear HB; have HO210 := n0_; have BK200 := n1_; have HB := n2_; have BK215 := n3_; have GW215 := n4_; have GE215 := n5_; have NB200_215 := n6_; have NB215_200 := n7_; clear n0_ n1_ n2_ n3_ n4_ n5_ n6_ n7_; clear hb hbox hg; have hnb27 := NB215_200.out; have hnc27 := NB200_215.out; have hcz28_0 : w26.cell? ⟨gb215, 0, none⟩ = some (.string (⟨#[]⟩ : ByteArray)) := (blk_cell BK215.out 0).trans rfl; have hcz28_1 : w26.cell? ⟨gb215, 1, none⟩ = some (.string (⟨#[]⟩ : ByteArray)) := (blk_cell BK215.out 1).trans rfl; have hcz28_2 : w26.cell? ⟨gb215, 2, none⟩ = some (.string (⟨#[]⟩ : ByteArray)) := (blk_cell BK215.out 2).trans rfl; have hfz28_0 := blk_frozen BK215.out 0; have hfz28_1 := blk_frozen BK215.out 1; have hfz28_2 := blk_frozen BK215.out 2; have hcz29_0 : w26.cell? ⟨gb200, 0, none⟩ = some (.string (⟨#[]⟩ : ByteArray)) := (blk_cell BK200.out 0).trans rfl; have hcz29_1 : w26.cell? ⟨gb200, 1, none⟩ = some (.string (⟨#[]⟩ : ByteArray)) := (blk_cell BK200.out 1).trans rfl; have hcz29_2 : w26.cell? ⟨gb200, 2, none⟩ = some (.string (⟨#[]⟩ : ByteArray)) := (blk_cell BK200.out 2).trans rfl; have hfz29_0 := blk_frozen BK200.out 0; have hfz29_1 := blk_frozen BK200.out 1; have hfz29_2 := blk_frozen BK200.out 2))
          refine bodyPost_ret (results_ct rfl _ _ gb200 41 #[.string t211, .string t212, .string t213] (0, 0) _ rfl (by (with_reducible repeat (first | refine blk_drewN ?_ _ | refine blk_drew ?_ | refine blk_alloc ?_ _)); refine blk_put (cs := #[.string t211, .string t212, .string (⟨#[]⟩ : ByteArray)]) ?_ 2 _ rfl; (with_reducible repeat (first | refine blk_drewN ?_ _ | refine blk_drew ?_ | refine blk_alloc ?_ _)); refine blk_put (cs := #[.string t211, .string (⟨#[]⟩ : ByteArray), .string (⟨#[]⟩ : ByteArray)]) ?_ 1 _ rfl; (with_reducible repeat (first | refine blk_drewN ?_ _ | refine blk_drew ?_ | refine blk_alloc ?_ _)); refine blk_put (cs := #[.string (⟨#[]⟩ : ByteArray), .string (⟨#[]⟩ : ByteArray), .string (⟨#[]⟩ : ByteArray)]) ?_ 0 _ rfl; (with_reducible repeat (first | refine blk_drewN ?_ _ | refine blk_drew ?_ | refine blk_alloc ?_ _)); refine blk_far ?_ NB200_215.out _; (with_reducible repeat (first | refine blk_drewN ?_ _ | refine blk_drew ?_ | refine blk_alloc ?_ _)); refine blk_far ?_ NB200_215.out _; (with_reducible repeat (first | refine blk_drewN ?_ _ | refine blk_drew ?_ | refine blk_alloc ?_ _)); refine blk_far ?_ NB200_215.out _; (with_reducible repeat (first | refine blk_drewN ?_ _ | refine blk_drew ?_ | refine blk_alloc ?_ _)); exact BK200.out) Tryd.underlying41 rfl (by kernel_rfl)) rfl ?_
          exact ⟨by first | rfl | (simp [bneNil]; done) | (simp [errW_none, errW_some] <;> rfl) | (simp [*, errW_none, errW_some] <;> rfl), by repeat (first | (with_reducible first | exact HB.out | apply below_alloc | apply pw_below_drewN | apply below_drew1 | refine below_set ?_ GE200.out | refine below_set ?_ GE215.out) | exact HB.out)⟩
         ·rw [if_neg c21] at H
          exact absurd H (by simp)
     ·rw [if_neg c11] at H
      exact absurd H (by simp)
    ·rw [if_neg c10] at H
     exact absurd H (by simp)

end Go.Proofs.YtdciiahlakgikaaDoor.Q
end
