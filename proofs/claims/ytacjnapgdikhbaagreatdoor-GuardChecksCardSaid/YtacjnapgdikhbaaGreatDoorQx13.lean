/- Walks of functions. -/
import Derived.Test.YtacjnapgdikhbaaGreatDoorQx0
set_option linter.unusedSimpArgs false
set_option linter.unusedVariables false
open Go.RowKit Go.Proofs.YtacjnapgdikhbaaGreatDoorW.PrintWords Go.Proofs.YtacjnapgdikhbaaGreatDoorW.PrintLast Go.Proofs.YtacjnapgdikhbaaGreatDoorW.PrintMore
set_option maxHeartbeats 8000000
set_option maxRecDepth 100000
attribute [local go_sem] max2_int min2_int max_two min_two max_three min_three max_four min_four
section
namespace Go.Proofs.YtacjnapgdikhbaaGreatDoor.Q

/-! ### postriderref04_Lower: function 76 -/
def postriderref04_Lower.l0 : Nat → ByteArray → List Int → Int → Option (ByteArray)
 | 0, _, _, _ => none
 | k + 1, x0, x3, x4 => if x4 < (x0.size : Int) then (if 0 ≤ x4 then (if (bt x0 x4) ≥ 65 then (if (bt x0 x4) ≤ 90 then (if x3.length < 140737488355328 then (postriderref04_Lower.l0 k x0 (x3 ++ [((bt x0 x4) + 32) % 256]) (wrap64 (x4 + 1))) else (none)) else (if x3.length < 140737488355328 then (postriderref04_Lower.l0 k x0 (x3 ++ [bt x0 x4]) (wrap64 (x4 + 1))) else (none))) else (if x3.length < 140737488355328 then (postriderref04_Lower.l0 k x0 (x3 ++ [bt x0 x4]) (wrap64 (x4 + 1))) else (none))) else (none)) else (some (strOfNums x3))
def postriderref04_Lower.f (k : Nat) (a0 : ByteArray) : Option (ByteArray) := postriderref04_Lower.l0 k a0 ([] : List Int) 0
theorem postriderref04_Lower.mono_l : ∀ k, (∀ y0 y1 y2, LeO (postriderref04_Lower.l0 k y0 y1 y2) (postriderref04_Lower.l0 (k + 1) y0 y1 y2))
 | 0 => fun _ _ _ r h => by simp [postriderref04_Lower.l0] at h
 | k + 1 => by
  have ih0 := postriderref04_Lower.mono_l k
  ·intro y0 y1 y2
   unfold postriderref04_Lower.l0
   repeat' first
   | (with_reducible first | exact ih0 _ _ _ | exact LeO.refl _ | exact LeO.none _ | refine LeO.ite ?_ ?_ | refine LeO.bind ?_ (fun _ => ?_))
theorem postriderref04_Lower.mono : ∀ a0 k, LeO (postriderref04_Lower.f k a0) (postriderref04_Lower.f (k + 1) a0) := by
 intro a0 k
 have ih0 := postriderref04_Lower.mono_l k
 unfold postriderref04_Lower.f
 repeat' first
   | (with_reducible first | exact ih0 _ _ _ | exact LeO.refl _ | exact LeO.none _ | refine LeO.ite ?_ ?_ | refine LeO.bind ?_ (fun _ => ?_))
theorem postriderref04_Lower.calls (k : Nat) (a0 : ByteArray) (r : ByteArray) (w : World) (h : postriderref04_Lower.f k a0 = some r) :
  Calls Tryz.prog 76 #[.string a0] w fun e w' => e = .returned (.string r) ∧ Below w.heap.size w w' := by
 have HB := Aside0.mk (Below.refl w.heap.size w)
 have H : (postriderref04_Lower.l0 k a0 ([] : List Int) 0) = some r := h
 clear h
 have H' := Aside0.mk H
 clear H
 go_enter Tryz.func76, Tryz.ntmps76
 go_wp2
 go_loopg [3, 4] k (fun kq v3 v4 w' => ∃ (x3_1 : List Int) (x4_1 : Int), v4 = .int .i64 x4_1 ∧ Aside0 (postriderref04_Lower.l0 kq a0 x3_1 x4_1 = some r) ∧ Aside0 (kq ≤ k) ∧ Aside0 (Kd.R (Kd.int .u8) 5 w' w.heap.size (fun _ => True) v3 x3_1) ∧ Aside0 (Below w.heap.size w w'))
 case atStart => exact ⟨(([] : List Int)), (0), rs, H', ⟨Nat.le_refl _⟩, ⟨by first | exact Kd.R_nil _ _ _ _ _ | exact Kd.N_nil _ _ _ _ _ | exact Kd.V_nil _ _ _ _ _ | exact Kd.Q_nil _ _ _ _ _ | exact Kd.S_nil _ _ _ _ _⟩, ⟨bl⟩⟩
 case round =>
  clear H'
  obtain ⟨x3_1, x4_1, rfl, HA, HK1, HO_3, HB⟩ := hrel
  cases gk with
  | zero => exact absurd HA.out (by simp [postriderref04_Lower.l0])
  | succ k1 =>
   have H := HA.out
   clear HA
   simp only [postriderref04_Lower.l0] at H
   by_cases c2 : x4_1 < (a0.size : Int)
   ·rw [if_pos c2] at H
    have c2b0 : decide (x4_1 < (a0.size : Int)) = true := decide_eq_true c2
    clear c2
    by_cases c3 : 0 ≤ x4_1
    rotate_left
    ·rw [if_neg c3] at H
     exact ab H
    rw [if_pos c3] at H
    have c3b0 : decide (0 ≤ x4_1) = true := decide_eq_true c3
    clear c3
    by_cases c5 : (bt a0 x4_1) ≥ 65
    ·rw [if_pos c5] at H
     have c5b0 : decide (65 ≤ (bt a0 x4_1)) = true := decide_eq_true c5
     clear c5
     by_cases c6 : (bt a0 x4_1) ≤ 90
     ·rw [if_pos c6] at H
      have c6b0 : decide ((bt a0 x4_1) ≤ 90) = true := decide_eq_true c6
      clear c6
      by_cases c7 : x3_1.length < 140737488355328
      rotate_left
      ·rw [if_neg c7] at H
       exact ab H
      rw [if_pos c7] at H
      have LMc7 := Aside0.mk c7
      clear c7
      obtain ⟨y214, hy214⟩ : ∃ y_ : List Int, y_ = (x3_1 ++ [((bt a0 x4_1) + 32) % 256]) := ⟨_, rfl⟩
      replace H : (postriderref04_Lower.l0 k1 a0 y214 (wrap64 (x4_1 + 1))) = some r := by first | (rw [hy214]; with_reducible exact H) | (have H2_ := (Option.bind_some _ _).symm.trans H; rw [hy214]; with_reducible exact H2_) | (have H2_ := (Option.bind_some _ _).symm.trans H; with_reducible exact H2_) | with_reducible exact H | (rw [hy214]; exact H) | exact H
      have Ny214 := Aside0.mk hy214
      clear hy214
      have H' := Aside0.mk H
      clear H
      have p4 : 0 ≤ (x4_1 : Int) := od
      have q4 : x4_1 < (a0.size : Int) := od
      have hx4 := bt_at a0 x4_1
      replace p4 := eq_true p4
      replace q4 := eq_true q4
      go_wp2_with (first | ((with_reducible refine gate_builtin (b := .append) (xs := #[.tmp 23, .tmp 25]) rfl ?_); at_builtin; refine Kd.R_append (Kd.int .u8) (w0 := w) w.heap.size rfl (.tmp 23) (.tmp 25) 102 5 (.int .u8 0) 1 rfl Tryz.underlying102 info5 rfl (by decide) (by omega) u3 x3_1 (((bt a0 x4_1) + 32) % 256) [.int .u8 (((bt a0 x4_1) + 32) % 256)] (fun _ => True) (fun _ => False) rfl rfl ?aP (fun _ hk => hk.elim) ?aF ?aO ?aB ?aS ?aL ?_; (case aP => exact rfl); (case aB => exact bl); (case aF => exact (fun _ _ => trivial)); (case aO => exact (kr HO_3.out)); (case aS => exact (below_size bl)); (case aL => have := LMc7.out; omega); intro v215 w8 ho hb hg hat; rw [← Ny214.out] at ho; replace HB := Aside0.mk (hb); have HO216 := Aside0.mk (ho); clear HO_3 ho hb hg hat))
      go_roundg k1
      case measure => have := HK1.out; omega
      case rel => exact ⟨(y214), (wrap64 (x4_1 + 1)), rs, H', ⟨by have := HK1.out; omega⟩, ⟨kr HO216.out⟩, ⟨bl⟩⟩
     ·rw [if_neg c6] at H
      have c6b0 : decide ((bt a0 x4_1) ≤ 90) = false := decide_eq_false c6
      clear c6
      by_cases c9 : x3_1.length < 140737488355328
      rotate_left
      ·rw [if_neg c9] at H
       exact ab H
      rw [if_pos c9] at H
      have LMc9 := Aside0.mk c9
      clear c9
      obtain ⟨y217, hy217⟩ : ∃ y_ : List Int, y_ = (x3_1 ++ [bt a0 x4_1]) := ⟨_, rfl⟩
      replace H : (postriderref04_Lower.l0 k1 a0 y217 (wrap64 (x4_1 + 1))) = some r := by first | (rw [hy217]; with_reducible exact H) | (have H2_ := (Option.bind_some _ _).symm.trans H; rw [hy217]; with_reducible exact H2_) | (have H2_ := (Option.bind_some _ _).symm.trans H; with_reducible exact H2_) | with_reducible exact H | (rw [hy217]; exact H) | exact H
      have Ny217 := Aside0.mk hy217
      clear hy217
      have H' := Aside0.mk H
      clear H
      have p4 : 0 ≤ (x4_1 : Int) := od
      have q4 : x4_1 < (a0.size : Int) := od
      have hx4 := bt_at a0 x4_1
      replace p4 := eq_true p4
      replace q4 := eq_true q4
      go_wp2_with (first | ((with_reducible refine gate_builtin (b := .append) (xs := #[.tmp 23, .tmp 25]) rfl ?_); at_builtin; refine Kd.R_append (Kd.int .u8) (w0 := w) w.heap.size rfl (.tmp 23) (.tmp 25) 102 5 (.int .u8 0) 1 rfl Tryz.underlying102 info5 rfl (by decide) (by omega) u3 x3_1 (bt a0 x4_1) [.int .u8 (bt a0 x4_1)] (fun _ => True) (fun _ => False) rfl rfl ?aP (fun _ hk => hk.elim) ?aF ?aO ?aB ?aS ?aL ?_; (case aP => exact rfl); (case aB => exact bl); (case aF => exact (fun _ _ => trivial)); (case aO => exact (kr HO_3.out)); (case aS => exact (below_size bl)); (case aL => have := LMc9.out; omega); intro v218 w10 ho hb hg hat; rw [← Ny217.out] at ho; replace HB := Aside0.mk (hb); have HO219 := Aside0.mk (ho); clear HO_3 ho hb hg hat))
      go_roundg k1
      case measure => have := HK1.out; omega
      case rel => exact ⟨(y217), (wrap64 (x4_1 + 1)), rs, H', ⟨by have := HK1.out; omega⟩, ⟨kr HO219.out⟩, ⟨bl⟩⟩
    ·rw [if_neg c5] at H
     have c5b0 : decide (65 ≤ (bt a0 x4_1)) = false := decide_eq_false c5
     clear c5
     by_cases c11 : x3_1.length < 140737488355328
     rotate_left
     ·rw [if_neg c11] at H
      exact ab H
     rw [if_pos c11] at H
     have LMc11 := Aside0.mk c11
     clear c11
     obtain ⟨y220, hy220⟩ : ∃ y_ : List Int, y_ = (x3_1 ++ [bt a0 x4_1]) := ⟨_, rfl⟩
     replace H : (postriderref04_Lower.l0 k1 a0 y220 (wrap64 (x4_1 + 1))) = some r := by first | (rw [hy220]; with_reducible exact H) | (have H2_ := (Option.bind_some _ _).symm.trans H; rw [hy220]; with_reducible exact H2_) | (have H2_ := (Option.bind_some _ _).symm.trans H; with_reducible exact H2_) | with_reducible exact H | (rw [hy220]; exact H) | exact H
     have Ny220 := Aside0.mk hy220
     clear hy220
     have H' := Aside0.mk H
     clear H
     have p4 : 0 ≤ (x4_1 : Int) := od
     have q4 : x4_1 < (a0.size : Int) := od
     have hx4 := bt_at a0 x4_1
     replace p4 := eq_true p4
     replace q4 := eq_true q4
     go_wp2_with (first | ((with_reducible refine gate_builtin (b := .append) (xs := #[.tmp 23, .tmp 25]) rfl ?_); at_builtin; refine Kd.R_append (Kd.int .u8) (w0 := w) w.heap.size rfl (.tmp 23) (.tmp 25) 102 5 (.int .u8 0) 1 rfl Tryz.underlying102 info5 rfl (by decide) (by omega) u3 x3_1 (bt a0 x4_1) [.int .u8 (bt a0 x4_1)] (fun _ => True) (fun _ => False) rfl rfl ?aP (fun _ hk => hk.elim) ?aF ?aO ?aB ?aS ?aL ?_; (case aP => exact rfl); (case aB => exact bl); (case aF => exact (fun _ _ => trivial)); (case aO => exact (kr HO_3.out)); (case aS => exact (below_size bl)); (case aL => have := LMc11.out; omega); intro v221 w12 ho hb hg hat; rw [← Ny220.out] at ho; replace HB := Aside0.mk (hb); have HO222 := Aside0.mk (ho); clear HO_3 ho hb hg hat))
     go_roundg k1
     case measure => have := HK1.out; omega
     case rel => exact ⟨(y220), (wrap64 (x4_1 + 1)), rs, H', ⟨by have := HK1.out; omega⟩, ⟨kr HO222.out⟩, ⟨bl⟩⟩
   ·rw [if_neg c2] at H
    have c2b0 : decide (x4_1 < (a0.size : Int)) = false := decide_eq_false c2
    clear c2
    obtain rfl := Option.some.inj H
    have hcv13 := own_string (P := Tryz.prog) Tryz.underlying102 Tryz.underlying5 Tryz.underlying9 (Kd.own_of_R HO_3.out)
    go_wp2
    go_ret
    exact ⟨rf, bl⟩

/-! ### postriderref07_Find: function 43 -/
def postriderref07_Find.l0 : Nat → ByteArray → List ByteArray → Int → List (S79) → ByteArray → Bool → Option (List ByteArray)
 | 0, _, _, _, _, _, _ => none
 | k + 1, x1, x5, x6, x224000, x224001, x224002 => if x6 < (x224000.length : Int) then (if 0 ≤ x6 then ((postriderref04_Lower.f k ((rd_T79 x224000 x6).f0)).bind fun t225 => ((postriderref04_Lower.f k x1).bind fun t226 => (if t225.toList = t226.toList then (if x5.length < 8796093022208 then (postriderref07_Find.l0 k x1 (x5 ++ [(rd_T79 x224000 x6).f1]) (wrap64 (x6 + 1)) x224000 x224001 x224002) else (none)) else (postriderref07_Find.l0 k x1 x5 (wrap64 (x6 + 1)) x224000 x224001 x224002)))) else (none)) else (some x5)
def postriderref07_Find.f (k : Nat) (l0_0 : List (S79)) (a0_1 : ByteArray) (a0_2 : Bool) (a1 : ByteArray) : Option (List ByteArray) := postriderref07_Find.l0 k a1 ([] : List ByteArray) 0 l0_0 a0_1 a0_2
theorem postriderref07_Find.mono_l : ∀ k, (∀ y0 y1 y2 y3 y4 y5, LeO (postriderref07_Find.l0 k y0 y1 y2 y3 y4 y5) (postriderref07_Find.l0 (k + 1) y0 y1 y2 y3 y4 y5))
 | 0 => fun _ _ _ _ _ _ r h => by simp [postriderref07_Find.l0] at h
 | k + 1 => by
  have ih0 := postriderref07_Find.mono_l k
  ·intro y0 y1 y2 y3 y4 y5
   unfold postriderref07_Find.l0
   repeat' first
   | (with_reducible first | exact ih0 _ _ _ _ _ _ | exact postriderref04_Lower.mono _ _ | exact LeO.refl _ | exact LeO.none _ | refine LeO.ite ?_ ?_ | refine LeO.bind ?_ (fun _ => ?_))
theorem postriderref07_Find.mono : ∀ a0 a1 a2 a3 k, LeO (postriderref07_Find.f k a0 a1 a2 a3) (postriderref07_Find.f (k + 1) a0 a1 a2 a3) := by
 intro a0 a1 a2 a3 k
 have ih0 := postriderref07_Find.mono_l k
 unfold postriderref07_Find.f
 repeat' first
   | (with_reducible first | exact ih0 _ _ _ _ _ _ | exact postriderref04_Lower.mono _ _ | exact LeO.refl _ | exact LeO.none _ | refine LeO.ite ?_ ?_ | refine LeO.bind ?_ (fun _ => ?_))
theorem postriderref07_Find.calls (k : Nat) (A0_0 : Option Addr) (c0_0 : Nat) (l0_0 : List (S79)) (a0_1 : ByteArray) (a0_2 : Bool) (a1 : ByteArray) (r : List ByteArray) (w : World) (hr0_0 : Kd.C k79 w A0_0 l0_0.length l0_0) (hc0_0 : l0_0.length ≤ c0_0) (h : postriderref07_Find.f k l0_0 a0_1 a0_2 a1 = some r) :
  Calls Tryz.prog 43 #[.agg #[.slice A0_0 l0_0.length c0_0, .string a0_1, .bool a0_2], .string a1] w fun e w' => ∃ v0_ : Value, e = .returned (v0_) ∧ Kd.R Kd.string 9 w' w.heap.size (fun _ => True) v0_ r ∧ Below w.heap.size w w' := by
 have hu30 := Tryz.underlying30
 have HR0_0 := Aside0.mk hr0_0
 have HC0_0 := Aside0.mk hc0_0
 clear hr0_0 hc0_0
 have HB := Aside0.mk (Below.refl w.heap.size w)
 have H : (postriderref07_Find.l0 k a1 ([] : List ByteArray) 0 l0_0 a0_1 a0_2) = some r := h
 clear h
 have H' := Aside0.mk H
 clear H
 go_enter Tryz.func43, Tryz.ntmps43
 go_wp2_with (first | ((with_reducible refine gate_dst (N := 2) rfl ?_); refine box_event ?hg (N := 2) ?hd (cs := #[.slice A0_0 l0_0.length c0_0, .string a0_1, .bool a0_2]) (t := 30) ?hr ?_; (case hd => rfl); (case hg => rfl); (case hr => first | (go_simp; done) | (go_simp; rfl)); intro gb223 hg w3 hbox hb; have BK223 := Aside0.mk (hbox); have GW223 := Aside0.mk (gz hg : w.heap.size ≤ gb223); have GE223 := Aside0.mk (gz hg : w.heap.size ≤ gb223); replace HB := Aside0.mk (below_step bl hb); clear hb hbox hg))
 go_loopg [5, 6] k (fun kq v5 v6 w' => ∃ (x5_1 : List ByteArray) (x6_1 : Int), v6 = .int .i64 x6_1 ∧ Aside0 (postriderref07_Find.l0 kq a1 x5_1 x6_1 l0_0 a0_1 a0_2 = some r) ∧ Aside0 (kq ≤ k) ∧ Aside0 (Kd.R Kd.string 9 w' w.heap.size (fun _ => True) v5 x5_1) ∧ Aside0 (w'.heap[gb223]? = some (.cells #[(.slice A0_0 l0_0.length c0_0), .string a0_1, .bool a0_2] 30 (0, 0))) ∧ Aside0 (Below w.heap.size w w'))
 case atStart => exact ⟨(([] : List ByteArray)), (0), rs, H', ⟨Nat.le_refl _⟩, ⟨by first | exact Kd.R_nil _ _ _ _ _ | exact Kd.N_nil _ _ _ _ _ | exact Kd.V_nil _ _ _ _ _ | exact Kd.Q_nil _ _ _ _ _ | exact Kd.S_nil _ _ _ _ _⟩, ⟨bk BK223.out⟩, ⟨bl⟩⟩
 case round =>
  clear H'
  try clear p2
  obtain ⟨x5_1, x6_1, rfl, HA, HK1, HO_5, BK223, HB⟩ := hrel
  cases gk with
  | zero => exact absurd HA.out (by simp [postriderref07_Find.l0])
  | succ k1 =>
   have H := HA.out
   clear HA
   simp only [postriderref07_Find.l0] at H
   by_cases c4 : x6_1 < (l0_0.length : Int)
   ·rw [if_pos c4] at H
    have c4b0 : decide (x6_1 < (l0_0.length : Int)) = true := decide_eq_true c4
    clear c4
    by_cases c5 : 0 ≤ x6_1
    rotate_left
    ·rw [if_neg c5] at H
     exact ab H
    rw [if_pos c5] at H
    have c5b0 : decide (0 ≤ x6_1) = true := decide_eq_true c5
    clear c5
    obtain ⟨t225, A60, H⟩ := Option.bind_eq_some_iff.mp H
    replace H : ((postriderref04_Lower.f k1 a1).bind fun t226 => (if t225.toList = t226.toList then (if x5_1.length < 8796093022208 then (postriderref07_Find.l0 k1 a1 (x5_1 ++ [(rd_T79 l0_0 x6_1).f1]) (wrap64 (x6_1 + 1)) l0_0 a0_1 a0_2) else (none)) else (postriderref07_Find.l0 k1 a1 x5_1 (wrap64 (x6_1 + 1)) l0_0 a0_1 a0_2))) = some r := H
    have A6 := Aside0.mk A60
    clear A60
    obtain ⟨t226, A70, H⟩ := Option.bind_eq_some_iff.mp H
    replace H : (if t225.toList = t226.toList then (if x5_1.length < 8796093022208 then (postriderref07_Find.l0 k1 a1 (x5_1 ++ [(rd_T79 l0_0 x6_1).f1]) (wrap64 (x6_1 + 1)) l0_0 a0_1 a0_2) else (none)) else (postriderref07_Find.l0 k1 a1 x5_1 (wrap64 (x6_1 + 1)) l0_0 a0_1 a0_2)) = some r := H
    have A7 := Aside0.mk A70
    clear A70
    by_cases c8 : t225.toList = t226.toList
    ·rw [if_pos c8] at H
     have c8b0 : (t225.toList == t226.toList) = true := beq_iff_eq.mpr c8
     have c8b1 : (t225.toList != t226.toList) = false := bne_eq_false_iff_eq.mpr c8
     clear c8
     by_cases c9 : x5_1.length < 8796093022208
     rotate_left
     ·rw [if_neg c9] at H
      exact ab H
     rw [if_pos c9] at H
     have LMc9 := Aside0.mk c9
     clear c9
     obtain ⟨y228, hy228⟩ : ∃ y_ : List ByteArray, y_ = (x5_1 ++ [(rd_T79 l0_0 x6_1).f1]) := ⟨_, rfl⟩
     replace H : (postriderref07_Find.l0 k1 a1 y228 (wrap64 (x6_1 + 1)) l0_0 a0_1 a0_2) = some r := by first | (rw [hy228]; with_reducible exact H) | (have H2_ := (Option.bind_some _ _).symm.trans H; rw [hy228]; with_reducible exact H2_) | (have H2_ := (Option.bind_some _ _).symm.trans H; with_reducible exact H2_) | with_reducible exact H | (rw [hy228]; exact H) | exact H
     have Ny228 := Aside0.mk hy228
     clear hy228
     have H' := Aside0.mk H
     clear H
     have hcz10_0 := cz BK223.out 0 (.slice A0_0 l0_0.length c0_0)
     have hcz10_1 := cz BK223.out 1 (.string a0_1)
     have hcz10_2 := cz BK223.out 2 (.bool a0_2)
     have hfz10_0 := blk_frozen BK223.out 0
     have hfz10_1 := blk_frozen BK223.out 1
     have hfz10_2 := blk_frozen BK223.out 2
     have p224 : 0 ≤ (x6_1 : Int) := od
     have q224 : x6_1 < (l0_0.length : Int) := od
     obtain ⟨ad224, e224, hx224_0, hx224_1, hx224_2⟩ := at_T79 HR0_0.out x6_1 p224 q224
     cases e224
     replace hx224_0 := (HB.out.cell (World.block_lt_of_cell? w _ hx224_0)).trans hx224_0
     replace hx224_1 := (HB.out.cell (World.block_lt_of_cell? w _ hx224_1)).trans hx224_1
     replace hx224_2 := (HB.out.cell (World.block_lt_of_cell? w _ hx224_2)).trans hx224_2
     replace p224 := eq_true p224
     replace q224 := eq_true q224
     go_wp2_with (first | ((with_reducible refine gate_callee (f := 76) rfl ?_); refine goesL_ (some 20) rfl rfl Tryz.func76 kf rfl #[.string ((rd_T79 l0_0 x6_1).f0)] rfl ml ?_; (with_reducible refine (postriderref04_Lower.calls k1 ((rd_T79 l0_0 x6_1).f0) t225 _ A6.out).mono ?_); rintro e w11 ⟨rfl, hb⟩; refine ⟨_, rfl, ?_⟩; replace HO_5 := Aside0.mk (Kd.R_below (kr HO_5.out) hb); replace BK223 := Aside0.mk (kb BK223.out hb); replace HB := Aside0.mk (below_step bl hb); (try clear hb); (try clear hb2); (try clear hk); (try clear hi)) | ((with_reducible refine gate_callee (f := 76) rfl ?_); refine goesL_ (some 22) rfl rfl Tryz.func76 kf rfl #[.string a1] rfl ml ?_; (with_reducible refine (postriderref04_Lower.calls k1 a1 t226 _ A7.out).mono ?_); rintro e w12 ⟨rfl, hb⟩; refine ⟨_, rfl, ?_⟩; replace HO_5 := Aside0.mk (Kd.R_below (kr HO_5.out) hb); replace BK223 := Aside0.mk (kb BK223.out hb); replace HB := Aside0.mk (below_step bl hb); (try clear hb); (try clear hb2); (try clear hk); (try clear hi); have hcz13_0 := cz BK223.out 0 (.slice (some ad224) l0_0.length c0_0); have hcz13_1 := cz BK223.out 1 (.string a0_1); have hcz13_2 := cz BK223.out 2 (.bool a0_2); have hfz13_0 := blk_frozen BK223.out 0; have hfz13_1 := blk_frozen BK223.out 1; have hfz13_2 := blk_frozen BK223.out 2; have p227 : 0 ≤ (x6_1 : Int) := od; have q227 : x6_1 < (l0_0.length : Int) := od; obtain ⟨ad227, e227, hx227_0, hx227_1, hx227_2⟩ := at_T79 HR0_0.out x6_1 p227 q227; obtain rfl : ad224 = ad227 := (by injection e227); replace hx227_0 := (HB.out.cell (World.block_lt_of_cell? w _ hx227_0)).trans hx227_0; replace hx227_1 := (HB.out.cell (World.block_lt_of_cell? w _ hx227_1)).trans hx227_1; replace hx227_2 := (HB.out.cell (World.block_lt_of_cell? w _ hx227_2)).trans hx227_2; replace p227 := eq_true p227; replace q227 := eq_true q227) | ((with_reducible refine gate_builtin (b := .append) (xs := #[.tmp 24, .tmp 31]) rfl ?_); at_builtin; refine Kd.R_append Kd.string (w0 := w) w.heap.size rfl (.tmp 24) (.tmp 31) 84 9 (.string ⟨#[]⟩) 16 rfl Tryz.underlying84 info9 rfl (by decide) (by omega) u5 x5_1 ((rd_T79 l0_0 x6_1).f1) [.string ((rd_T79 l0_0 x6_1).f1)] (fun _ => True) (fun _ => False) rfl rfl ?aP (fun _ hk => hk.elim) ?aF ?aO ?aB ?aS ?aL ?_; (case aP => exact rfl); (case aB => exact bl); (case aF => exact (fun _ _ => trivial)); (case aO => exact (kr HO_5.out)); (case aS => exact (below_size bl)); (case aL => have := LMc9.out; omega); intro v229 w14 ho hb hg hat; rw [← Ny228.out] at ho; replace BK223 := Aside0.mk (blk_grown (g := gb223) (o := .cells #[.slice (some ad224) l0_0.length c0_0, .string a0_1, .bool a0_2] 30 (0, 0)) (bk BK223.out) hg (Kd.R_ne HO_5.out BK223.out (by decide))); replace HB := Aside0.mk (hb); have HO230 := Aside0.mk (ho); clear HO_5 ho hb hg hat))
     go_roundg k1
     case measure => have := HK1.out; omega
     case rel => exact ⟨(y228), (wrap64 (x6_1 + 1)), rs, H', ⟨by have := HK1.out; omega⟩, ⟨kr HO230.out⟩, ⟨bk BK223.out⟩, ⟨bl⟩⟩
    ·rw [if_neg c8] at H
     have c8b0 : (t225.toList == t226.toList) = false := beq_eq_false_iff_ne.mpr c8
     have c8b1 : (t225.toList != t226.toList) = true := bne_iff_ne.mpr c8
     have H' := Aside0.mk H
     clear H
     have hcz15_0 := cz BK223.out 0 (.slice A0_0 l0_0.length c0_0)
     have hcz15_1 := cz BK223.out 1 (.string a0_1)
     have hcz15_2 := cz BK223.out 2 (.bool a0_2)
     have hfz15_0 := blk_frozen BK223.out 0
     have hfz15_1 := blk_frozen BK223.out 1
     have hfz15_2 := blk_frozen BK223.out 2
     have p224 : 0 ≤ (x6_1 : Int) := od
     have q224 : x6_1 < (l0_0.length : Int) := od
     obtain ⟨ad224, e224, hx224_0, hx224_1, hx224_2⟩ := at_T79 HR0_0.out x6_1 p224 q224
     cases e224
     replace hx224_0 := (HB.out.cell (World.block_lt_of_cell? w _ hx224_0)).trans hx224_0
     replace hx224_1 := (HB.out.cell (World.block_lt_of_cell? w _ hx224_1)).trans hx224_1
     replace hx224_2 := (HB.out.cell (World.block_lt_of_cell? w _ hx224_2)).trans hx224_2
     replace p224 := eq_true p224
     replace q224 := eq_true q224
     go_wp2_with (first | ((with_reducible refine gate_callee (f := 76) rfl ?_); refine goesL_ (some 20) rfl rfl Tryz.func76 kf rfl #[.string ((rd_T79 l0_0 x6_1).f0)] rfl ml ?_; (with_reducible refine (postriderref04_Lower.calls k1 ((rd_T79 l0_0 x6_1).f0) t225 _ A6.out).mono ?_); rintro e w16 ⟨rfl, hb⟩; refine ⟨_, rfl, ?_⟩; replace HO_5 := Aside0.mk (Kd.R_below (kr HO_5.out) hb); replace BK223 := Aside0.mk (kb BK223.out hb); replace HB := Aside0.mk (below_step bl hb); (try clear hb); (try clear hb2); (try clear hk); (try clear hi)) | ((with_reducible refine gate_callee (f := 76) rfl ?_); refine goesL_ (some 22) rfl rfl Tryz.func76 kf rfl #[.string a1] rfl ml ?_; (with_reducible refine (postriderref04_Lower.calls k1 a1 t226 _ A7.out).mono ?_); rintro e w17 ⟨rfl, hb⟩; refine ⟨_, rfl, ?_⟩; replace HO_5 := Aside0.mk (Kd.R_below (kr HO_5.out) hb); replace BK223 := Aside0.mk (kb BK223.out hb); replace HB := Aside0.mk (below_step bl hb); (try clear hb); (try clear hb2); (try clear hk); (try clear hi)))
     go_roundg k1
     case measure => have := HK1.out; omega
     case rel => exact ⟨(x5_1), (wrap64 (x6_1 + 1)), rs, H', ⟨by have := HK1.out; omega⟩, ⟨kr HO_5.out⟩, ⟨bk BK223.out⟩, ⟨bl⟩⟩
   ·rw [if_neg c4] at H
    have c4b0 : decide (x6_1 < (l0_0.length : Int)) = false := decide_eq_false c4
    clear c4
    obtain rfl := Option.some.inj H
    have hcz18_0 := cz BK223.out 0 (.slice A0_0 l0_0.length c0_0)
    have hcz18_1 := cz BK223.out 1 (.string a0_1)
    have hcz18_2 := cz BK223.out 2 (.bool a0_2)
    have hfz18_0 := blk_frozen BK223.out 0
    have hfz18_1 := blk_frozen BK223.out 1
    have hfz18_2 := blk_frozen BK223.out 2
    go_wp2
    go_ret
    exact ⟨_, by first | rfl | (simp [errW_none, errW_some] <;> rfl) | (simp [*, errW_none, errW_some] <;> rfl), kr HO_5.out, bl⟩

/-! ### postriderref22_Hops: function 16 -/
def postriderref22_Hops.f (k : Nat) (l0_0 : List (S79)) (a0_1 : ByteArray) (a0_2 : Bool) : Option (Int) := (postriderref07_Find.f k l0_0 a0_1 a0_2 (⟨#[114, 101, 99, 101, 105, 118, 101, 100]⟩ : ByteArray)).bind fun t232 => (some (t232.length : Int))
theorem postriderref22_Hops.mono : ∀ a0 a1 a2 k, LeO (postriderref22_Hops.f k a0 a1 a2) (postriderref22_Hops.f (k + 1) a0 a1 a2) := by
 intro a0 a1 a2 k
 unfold postriderref22_Hops.f
 repeat' first
   | (with_reducible first | exact postriderref07_Find.mono _ _ _ _ _ | exact LeO.refl _ | exact LeO.none _ | refine LeO.ite ?_ ?_ | refine LeO.bind ?_ (fun _ => ?_))
theorem postriderref22_Hops.calls (k : Nat) (A0_0 : Option Addr) (c0_0 : Nat) (l0_0 : List (S79)) (a0_1 : ByteArray) (a0_2 : Bool) (r : Int) (w : World) (hr0_0 : Kd.C k79 w A0_0 l0_0.length l0_0) (hc0_0 : l0_0.length ≤ c0_0) (h : postriderref22_Hops.f k l0_0 a0_1 a0_2 = some r) :
  Calls Tryz.prog 16 #[.agg #[.slice A0_0 l0_0.length c0_0, .string a0_1, .bool a0_2]] w fun e w' => e = .returned (.int .i64 r) ∧ Below w.heap.size w w' := by
 have hu30 := Tryz.underlying30
 have HR0_0 := Aside0.mk hr0_0
 have HC0_0 := Aside0.mk hc0_0
 clear hr0_0 hc0_0
 have HB := Aside0.mk (Below.refl w.heap.size w)
 have H : ((postriderref07_Find.f k l0_0 a0_1 a0_2 (⟨#[114, 101, 99, 101, 105, 118, 101, 100]⟩ : ByteArray)).bind fun t232 => (some (t232.length : Int))) = some r := h
 clear h
 obtain ⟨t232, A20, H⟩ := Option.bind_eq_some_iff.mp H
 replace H : (some (t232.length : Int)) = some r := H
 have A2 := Aside0.mk A20
 clear A20
 obtain rfl := Option.some.inj H
 go_enter Tryz.func16, Tryz.ntmps16
 go_wp2_with (first | ((with_reducible refine gate_dst (N := 1) rfl ?_); refine box_event ?hg (N := 1) ?hd (cs := #[.slice A0_0 l0_0.length c0_0, .string a0_1, .bool a0_2]) (t := 30) ?hr ?_; (case hd => rfl); (case hg => rfl); (case hr => first | (go_simp; done) | (go_simp; rfl)); intro gb231 hg w3 hbox hb; have BK231 := Aside0.mk (hbox); have GW231 := Aside0.mk (gz hg : w.heap.size ≤ gb231); have GE231 := Aside0.mk (gz hg : w.heap.size ≤ gb231); replace HB := Aside0.mk (below_step bl hb); clear hb hbox hg; have hcz4_0 := cz BK231.out 0 (.slice A0_0 l0_0.length c0_0); have hcz4_1 := cz BK231.out 1 (.string a0_1); have hcz4_2 := cz BK231.out 2 (.bool a0_2); have hfz4_0 := blk_frozen BK231.out 0; have hfz4_1 := blk_frozen BK231.out 1; have hfz4_2 := blk_frozen BK231.out 2) | ((with_reducible refine gate_callee (f := 43) rfl ?_); refine goesL_ (some 4) rfl rfl Tryz.func43 kf rfl #[.agg #[.slice A0_0 l0_0.length c0_0, .string a0_1, .bool a0_2], .string (⟨#[114, 101, 99, 101, 105, 118, 101, 100]⟩ : ByteArray)] rfl ml ?_; (with_reducible refine (postriderref07_Find.calls k _ _ l0_0 a0_1 a0_2 (⟨#[114, 101, 99, 101, 105, 118, 101, 100]⟩ : ByteArray) t232 _ ?side1 ?side2 A2.out).mono ?_); (case side1 => repeat (first | exact (Kd.C_below HR0_0.out HB.out) | (with_reducible refine Kd.C_alloc ?_ _) | (with_reducible refine Kd.C_drewN ?_ _) | (with_reducible refine Kd.C_drew ?_))); (case side2 => exact HC0_0.out); rintro e w5 ⟨v233, rfl, ho0, hb⟩; refine ⟨_, rfl, ?_⟩; have HO234 := Aside0.mk (Kd.R_lower ho0 (below_size bl)); replace BK231 := Aside0.mk (kb BK231.out hb); replace HB := Aside0.mk (below_step bl hb); (try clear hb); (try clear hb2); (try clear hk); (try clear hi); (try clear ho0); obtain ⟨Ao6, co6, eo6⟩ := Kd.R_slice HO234.out; subst eo6))
 go_ret
 exact ⟨rf, bl⟩

/-! ### postriderref05_Normal: function 41 -/
def postriderref05_Normal.f (k : Nat) (a0_0 : ByteArray) (a0_1 : ByteArray) : Option (ByteArray × ByteArray) := (postriderref04_Lower.f k a0_0).bind fun t237 => (if t237.toList = ([112, 111, 115, 116, 109, 97, 115, 116, 101, 114] : List UInt8) then ((postriderref04_Lower.f k a0_1).bind fun t238 => (some ((⟨#[112, 111, 115, 116, 109, 97, 115, 116, 101, 114]⟩ : ByteArray), t238))) else ((postriderref04_Lower.f k a0_1).bind fun t239 => (some (a0_0, t239))))
theorem postriderref05_Normal.mono : ∀ a0 a1 k, LeO (postriderref05_Normal.f k a0 a1) (postriderref05_Normal.f (k + 1) a0 a1) := by
 intro a0 a1 k
 unfold postriderref05_Normal.f
 repeat' first
   | (with_reducible first | exact postriderref04_Lower.mono _ _ | exact LeO.refl _ | exact LeO.none _ | refine LeO.ite ?_ ?_ | refine LeO.bind ?_ (fun _ => ?_))
theorem postriderref05_Normal.calls (k : Nat) (a0_0 : ByteArray) (a0_1 : ByteArray) (r1 : ByteArray) (r2 : ByteArray) (w : World) (h : postriderref05_Normal.f k a0_0 a0_1 = some (r1, r2)) :
  Calls Tryz.prog 41 #[.agg #[.string a0_0, .string a0_1]] w fun e w' => e = .returned (.agg #[.string r1, .string r2]) ∧ Below w.heap.size w w' := by
 have hu46 := Tryz.underlying46
 have HB := Aside0.mk (Below.refl w.heap.size w)
 have H : ((postriderref04_Lower.f k a0_0).bind fun t237 => (if t237.toList = ([112, 111, 115, 116, 109, 97, 115, 116, 101, 114] : List UInt8) then ((postriderref04_Lower.f k a0_1).bind fun t238 => (some ((⟨#[112, 111, 115, 116, 109, 97, 115, 116, 101, 114]⟩ : ByteArray), t238))) else ((postriderref04_Lower.f k a0_1).bind fun t239 => (some (a0_0, t239))))) = some (r1, r2) := h
 clear h
 obtain ⟨t237, A20, H⟩ := Option.bind_eq_some_iff.mp H
 replace H : (if t237.toList = ([112, 111, 115, 116, 109, 97, 115, 116, 101, 114] : List UInt8) then ((postriderref04_Lower.f k a0_1).bind fun t238 => (some ((⟨#[112, 111, 115, 116, 109, 97, 115, 116, 101, 114]⟩ : ByteArray), t238))) else ((postriderref04_Lower.f k a0_1).bind fun t239 => (some (a0_0, t239)))) = some (r1, r2) := H
 have A2 := Aside0.mk A20
 clear A20
 by_cases c3 : t237.toList = ([112, 111, 115, 116, 109, 97, 115, 116, 101, 114] : List UInt8)
 ·rw [if_pos c3] at H
  have c3b0 : (t237.toList == ([112, 111, 115, 116, 109, 97, 115, 116, 101, 114] : List UInt8)) = true := beq_iff_eq.mpr c3
  have c3b1 : (t237.toList != ([112, 111, 115, 116, 109, 97, 115, 116, 101, 114] : List UInt8)) = false := bne_eq_false_iff_eq.mpr c3
  clear c3
  obtain ⟨t238, A40, H⟩ := Option.bind_eq_some_iff.mp H
  replace H : (some ((⟨#[112, 111, 115, 116, 109, 97, 115, 116, 101, 114]⟩ : ByteArray), t238)) = some (r1, r2) := H
  have A4 := Aside0.mk A40
  clear A40
  simp only [Option.some.injEq, Prod.mk.injEq] at H
  obtain ⟨rfl, rfl⟩ := H
  go_enter Tryz.func41, Tryz.ntmps41
  go_wp2_with (first | ((with_reducible refine gate_dst (N := 1) rfl ?_); refine box_event ?hg (N := 1) ?hd (cs := #[.string a0_0, .string a0_1]) (t := 46) ?hr ?_; (case hd => rfl); (case hg => rfl); (case hr => first | (go_simp; done) | (go_simp; rfl)); intro gb235 hg w5 hbox hb; have BK235 := Aside0.mk (hbox); have GW235 := Aside0.mk (gz hg : w.heap.size ≤ gb235); have GE235 := Aside0.mk (gz hg : w.heap.size ≤ gb235); replace HB := Aside0.mk (below_step bl hb); clear hb hbox hg) | ((with_reducible refine gate_dst (N := 2) rfl ?_); refine box_event ?hg (N := 2) ?hd (cs := #[.string (⟨#[]⟩ : ByteArray), .string (⟨#[]⟩ : ByteArray)]) (t := 46) ?hr ?_; (case hd => rfl); (case hg => rfl); (case hr => first | (go_simp; done) | (go_simp; rfl)); intro gb236 hg w6 hbox hb; have BK236 := Aside0.mk (hbox); have GW236 := Aside0.mk (gz hg : w.heap.size ≤ gb236); have GE236 := Aside0.mk (gz hg : w.heap.size ≤ gb236); replace HB := Aside0.mk (below_step bl hb); have NB235_236 := Aside0.mk (nl hg BK235.out : gb235 ≠ gb236); have NB236_235 := Aside0.mk (ng hg BK235.out : gb236 ≠ gb235); replace BK235 := Aside0.mk (kb BK235.out hb); clear hb hbox hg; have hnb7 := NB235_236.out; have hnc7 := NB236_235.out; have hcz8_0 := cz BK235.out 0 (.string a0_0); have hcz8_1 := cz BK235.out 1 (.string a0_1); have hfz8_0 := blk_frozen BK235.out 0; have hfz8_1 := blk_frozen BK235.out 1) | ((with_reducible refine gate_callee (f := 76) rfl ?_); refine goesL_ (some 5) rfl rfl Tryz.func76 kf rfl #[.string a0_0] rfl ml ?_; (with_reducible refine (postriderref04_Lower.calls k a0_0 t237 _ A2.out).mono ?_); rintro e w9 ⟨rfl, hb⟩; refine ⟨_, rfl, ?_⟩; replace BK235 := Aside0.mk (kb BK235.out hb); replace BK236 := Aside0.mk (kb BK236.out hb); replace HB := Aside0.mk (below_step bl hb); (try clear hb); (try clear hb2); (try clear hk); (try clear hi); have hcz10_0 := cz BK235.out 0 (.string a0_0); have hcz10_1 := cz BK235.out 1 (.string a0_1); have hfz10_0 := blk_frozen BK235.out 0; have hfz10_1 := blk_frozen BK235.out 1) | ((with_reducible refine gate_callee (f := 76) rfl ?_); refine goesL_ (some 10) rfl rfl Tryz.func76 kf rfl #[.string a0_1] rfl ml ?_; (with_reducible refine (postriderref04_Lower.calls k a0_1 t238 _ A4.out).mono ?_); rintro e w11 ⟨rfl, hb⟩; refine ⟨_, rfl, ?_⟩; replace BK235 := Aside0.mk (blk_below (g := gb235) (o := .cells #[.string (⟨#[112, 111, 115, 116, 109, 97, 115, 116, 101, 114]⟩ : ByteArray), .string a0_1] 46 (0, 0)) (by (with_reducible repeat (first | refine blk_drewN ?_ _ | refine blk_drew ?_ | refine blk_alloc ?_ _)); refine blk_put (cs := #[.string a0_0, .string a0_1]) ?_ 0 _ rfl; (with_reducible repeat (first | refine blk_drewN ?_ _ | refine blk_drew ?_ | refine blk_alloc ?_ _)); exact BK235.out) hb); replace BK236 := Aside0.mk (kb BK236.out hb); replace HB := Aside0.mk (below_step bl hb); (try clear hb); (try clear hb2); (try clear hk); (try clear hi); have hcz12_0 := cz BK235.out 0 (.string (⟨#[112, 111, 115, 116, 109, 97, 115, 116, 101, 114]⟩ : ByteArray)); have hcz12_1 := cz BK235.out 1 (.string a0_1); have hfz12_0 := blk_frozen BK235.out 0; have hfz12_1 := blk_frozen BK235.out 1; have hcz13_0 := cz BK236.out 0 (.string (⟨#[]⟩ : ByteArray)); have hcz13_1 := cz BK236.out 1 (.string (⟨#[]⟩ : ByteArray)); have hfz13_0 := blk_frozen BK236.out 0; have hfz13_1 := blk_frozen BK236.out 1))
  refine bodyPost_ret (results_cell_row rfl _ _ gb236 46 #[.string (⟨#[112, 111, 115, 116, 109, 97, 115, 116, 101, 114]⟩ : ByteArray), .string t238] (0, 0) _ rfl (by (with_reducible repeat (first | refine blk_drewN ?_ _ | refine blk_drew ?_ | refine blk_alloc ?_ _)); refine blk_put (cs := #[.string (⟨#[112, 111, 115, 116, 109, 97, 115, 116, 101, 114]⟩ : ByteArray), .string (⟨#[]⟩ : ByteArray)]) ?_ 1 _ rfl; (with_reducible repeat (first | refine blk_drewN ?_ _ | refine blk_drew ?_ | refine blk_alloc ?_ _)); refine blk_put (cs := #[.string (⟨#[]⟩ : ByteArray), .string (⟨#[]⟩ : ByteArray)]) ?_ 0 _ rfl; (with_reducible repeat (first | refine blk_drewN ?_ _ | refine blk_drew ?_ | refine blk_alloc ?_ _)); refine blk_far ?_ NB236_235.out _; (with_reducible repeat (first | refine blk_drewN ?_ _ | refine blk_drew ?_ | refine blk_alloc ?_ _)); exact BK236.out) Tryz.underlying46 rfl kf) rfl ?_
  exact ⟨rf, bl⟩
 ·rw [if_neg c3] at H
  have c3b0 : (t237.toList == ([112, 111, 115, 116, 109, 97, 115, 116, 101, 114] : List UInt8)) = false := beq_eq_false_iff_ne.mpr c3
  have c3b1 : (t237.toList != ([112, 111, 115, 116, 109, 97, 115, 116, 101, 114] : List UInt8)) = true := bne_iff_ne.mpr c3
  obtain ⟨t239, A140, H⟩ := Option.bind_eq_some_iff.mp H
  replace H : (some (a0_0, t239)) = some (r1, r2) := H
  have A14 := Aside0.mk A140
  clear A140
  simp only [Option.some.injEq, Prod.mk.injEq] at H
  obtain ⟨rfl, rfl⟩ := H
  go_enter Tryz.func41, Tryz.ntmps41
  go_wp2_with (first | ((with_reducible refine gate_dst (N := 1) rfl ?_); refine box_event ?hg (N := 1) ?hd (cs := #[.string a0_0, .string a0_1]) (t := 46) ?hr ?_; (case hd => rfl); (case hg => rfl); (case hr => first | (go_simp; done) | (go_simp; rfl)); intro gb235 hg w15 hbox hb; have BK235 := Aside0.mk (hbox); have GW235 := Aside0.mk (gz hg : w.heap.size ≤ gb235); have GE235 := Aside0.mk (gz hg : w.heap.size ≤ gb235); replace HB := Aside0.mk (below_step bl hb); clear hb hbox hg) | ((with_reducible refine gate_dst (N := 2) rfl ?_); refine box_event ?hg (N := 2) ?hd (cs := #[.string (⟨#[]⟩ : ByteArray), .string (⟨#[]⟩ : ByteArray)]) (t := 46) ?hr ?_; (case hd => rfl); (case hg => rfl); (case hr => first | (go_simp; done) | (go_simp; rfl)); intro gb236 hg w16 hbox hb; have BK236 := Aside0.mk (hbox); have GW236 := Aside0.mk (gz hg : w.heap.size ≤ gb236); have GE236 := Aside0.mk (gz hg : w.heap.size ≤ gb236); replace HB := Aside0.mk (below_step bl hb); have NB235_236 := Aside0.mk (nl hg BK235.out : gb235 ≠ gb236); have NB236_235 := Aside0.mk (ng hg BK235.out : gb236 ≠ gb235); replace BK235 := Aside0.mk (kb BK235.out hb); clear hb hbox hg; have hnb17 := NB235_236.out; have hnc17 := NB236_235.out; have hcz18_0 := cz BK235.out 0 (.string a0_0); have hcz18_1 := cz BK235.out 1 (.string a0_1); have hfz18_0 := blk_frozen BK235.out 0; have hfz18_1 := blk_frozen BK235.out 1) | ((with_reducible refine gate_callee (f := 76) rfl ?_); refine goesL_ (some 5) rfl rfl Tryz.func76 kf rfl #[.string a0_0] rfl ml ?_; (with_reducible refine (postriderref04_Lower.calls k a0_0 t237 _ A2.out).mono ?_); rintro e w19 ⟨rfl, hb⟩; refine ⟨_, rfl, ?_⟩; replace BK235 := Aside0.mk (kb BK235.out hb); replace BK236 := Aside0.mk (kb BK236.out hb); replace HB := Aside0.mk (below_step bl hb); (try clear hb); (try clear hb2); (try clear hk); (try clear hi); have hcz20_0 := cz BK235.out 0 (.string a0_0); have hcz20_1 := cz BK235.out 1 (.string a0_1); have hfz20_0 := blk_frozen BK235.out 0; have hfz20_1 := blk_frozen BK235.out 1) | ((with_reducible refine gate_callee (f := 76) rfl ?_); refine goesL_ (some 10) rfl rfl Tryz.func76 kf rfl #[.string a0_1] rfl ml ?_; (with_reducible refine (postriderref04_Lower.calls k a0_1 t239 _ A14.out).mono ?_); rintro e w21 ⟨rfl, hb⟩; refine ⟨_, rfl, ?_⟩; replace BK235 := Aside0.mk (kb BK235.out hb); replace BK236 := Aside0.mk (kb BK236.out hb); replace HB := Aside0.mk (below_step bl hb); (try clear hb); (try clear hb2); (try clear hk); (try clear hi); have hcz22_0 := cz BK235.out 0 (.string a0_0); have hcz22_1 := cz BK235.out 1 (.string a0_1); have hfz22_0 := blk_frozen BK235.out 0; have hfz22_1 := blk_frozen BK235.out 1; have hcz23_0 := cz BK236.out 0 (.string (⟨#[]⟩ : ByteArray)); have hcz23_1 := cz BK236.out 1 (.string (⟨#[]⟩ : ByteArray)); have hfz23_0 := blk_frozen BK236.out 0; have hfz23_1 := blk_frozen BK236.out 1))
  refine bodyPost_ret (results_cell_row rfl _ _ gb236 46 #[.string a0_0, .string t239] (0, 0) _ rfl (by (with_reducible repeat (first | refine blk_drewN ?_ _ | refine blk_drew ?_ | refine blk_alloc ?_ _)); refine blk_put (cs := #[.string a0_0, .string (⟨#[]⟩ : ByteArray)]) ?_ 1 _ rfl; (with_reducible repeat (first | refine blk_drewN ?_ _ | refine blk_drew ?_ | refine blk_alloc ?_ _)); refine blk_put (cs := #[.string (⟨#[]⟩ : ByteArray), .string (⟨#[]⟩ : ByteArray)]) ?_ 0 _ rfl; (with_reducible repeat (first | refine blk_drewN ?_ _ | refine blk_drew ?_ | refine blk_alloc ?_ _)); refine blk_far ?_ NB236_235.out _; (with_reducible repeat (first | refine blk_drewN ?_ _ | refine blk_drew ?_ | refine blk_alloc ?_ _)); exact BK236.out) Tryz.underlying46 rfl kf) rfl ?_
  exact ⟨rf, bl⟩

/-! ### postriderref04_Split: function 160 -/
def postriderref04_Split.l0 : Nat → ByteArray → Int → List ByteArray → Int → Int → Option (List ByteArray)
 | 0, _, _, _, _, _ => none
 | k + 1, x0, x1, x5, x6, x7 => if x7 < (x0.size : Int) then (if 0 ≤ x7 then (if (bt x0 x7) = x1 then (if 0 ≤ x6 then (if x6 ≤ x7 then (if x7 ≤ (x0.size : Int) then (if x5.length < 8796093022208 then (postriderref04_Split.l0 k x0 x1 (x5 ++ [x0.extract (x6 : Int).toNat (x7 : Int).toNat]) (wrap64 (x7 + 1)) (wrap64 (x7 + 1))) else (none)) else (none)) else (none)) else (none)) else (postriderref04_Split.l0 k x0 x1 x5 x6 (wrap64 (x7 + 1)))) else (none)) else (if 0 ≤ x6 then (if x6 ≤ (x0.size : Int) then (if x5.length < 8796093022208 then (some (x5 ++ [x0.extract (x6 : Int).toNat x0.size])) else (none)) else (none)) else (none))
def postriderref04_Split.f (k : Nat) (a0 : ByteArray) (a1 : Int) : Option (List ByteArray) := postriderref04_Split.l0 k a0 a1 ([] : List ByteArray) 0 0
theorem postriderref04_Split.mono_l : ∀ k, (∀ y0 y1 y2 y3 y4, LeO (postriderref04_Split.l0 k y0 y1 y2 y3 y4) (postriderref04_Split.l0 (k + 1) y0 y1 y2 y3 y4))
 | 0 => fun _ _ _ _ _ r h => by simp [postriderref04_Split.l0] at h
 | k + 1 => by
  have ih0 := postriderref04_Split.mono_l k
  ·intro y0 y1 y2 y3 y4
   unfold postriderref04_Split.l0
   repeat' first
   | (with_reducible first | exact ih0 _ _ _ _ _ | exact LeO.refl _ | exact LeO.none _ | refine LeO.ite ?_ ?_ | refine LeO.bind ?_ (fun _ => ?_))
theorem postriderref04_Split.mono : ∀ a0 a1 k, LeO (postriderref04_Split.f k a0 a1) (postriderref04_Split.f (k + 1) a0 a1) := by
 intro a0 a1 k
 have ih0 := postriderref04_Split.mono_l k
 unfold postriderref04_Split.f
 repeat' first
   | (with_reducible first | exact ih0 _ _ _ _ _ | exact LeO.refl _ | exact LeO.none _ | refine LeO.ite ?_ ?_ | refine LeO.bind ?_ (fun _ => ?_))
theorem postriderref04_Split.calls (k : Nat) (a0 : ByteArray) (a1 : Int) (r : List ByteArray) (w : World) (h : postriderref04_Split.f k a0 a1 = some r) :
  Calls Tryz.prog 160 #[.string a0, .int .u8 a1] w fun e w' => ∃ v0_ : Value, e = .returned (v0_) ∧ Kd.R Kd.string 9 w' w.heap.size (fun _ => True) v0_ r ∧ Below w.heap.size w w' := by
 have HB := Aside0.mk (Below.refl w.heap.size w)
 have H : (postriderref04_Split.l0 k a0 a1 ([] : List ByteArray) 0 0) = some r := h
 clear h
 have H' := Aside0.mk H
 clear H
 go_enter Tryz.func160, Tryz.ntmps160
 go_wp2
 go_loopg [5, 6, 7] k (fun kq v5 v6 v7 w' => ∃ (x5_1 : List ByteArray) (x6_1 : Int) (x7_1 : Int), v6 = .int .i64 x6_1 ∧ v7 = .int .i64 x7_1 ∧ Aside0 (postriderref04_Split.l0 kq a0 a1 x5_1 x6_1 x7_1 = some r) ∧ Aside0 (kq ≤ k) ∧ Aside0 (Kd.R Kd.string 9 w' w.heap.size (fun _ => True) v5 x5_1) ∧ Aside0 (Below w.heap.size w w'))
 case atStart => exact ⟨(([] : List ByteArray)), (0), (0), rs, rs, H', ⟨Nat.le_refl _⟩, ⟨by first | exact Kd.R_nil _ _ _ _ _ | exact Kd.N_nil _ _ _ _ _ | exact Kd.V_nil _ _ _ _ _ | exact Kd.Q_nil _ _ _ _ _ | exact Kd.S_nil _ _ _ _ _⟩, ⟨bl⟩⟩
 case round =>
  clear H'
  try clear c1
  try clear p2
  obtain ⟨x5_1, x6_1, x7_1, rfl, rfl, HA, HK1, HO_5, HB⟩ := hrel
  cases gk with
  | zero => exact absurd HA.out (by simp [postriderref04_Split.l0])
  | succ k1 =>
   have H := HA.out
   clear HA
   simp only [postriderref04_Split.l0] at H
   by_cases c3 : x7_1 < (a0.size : Int)
   ·rw [if_pos c3] at H
    have c3b0 : decide (x7_1 < (a0.size : Int)) = true := decide_eq_true c3
    clear c3
    by_cases c4 : 0 ≤ x7_1
    rotate_left
    ·rw [if_neg c4] at H
     exact ab H
    rw [if_pos c4] at H
    have c4b0 : decide (0 ≤ x7_1) = true := decide_eq_true c4
    clear c4
    by_cases c6 : (bt a0 x7_1) = a1
    ·rw [if_pos c6] at H
     have c6b0 : ((bt a0 x7_1) == a1) = true := beq_iff_eq.mpr c6
     have c6b1 : ((bt a0 x7_1) != a1) = false := bne_eq_false_iff_eq.mpr c6
     clear c6
     by_cases c7 : 0 ≤ x6_1
     rotate_left
     ·rw [if_neg c7] at H
      exact ab H
     rw [if_pos c7] at H
     have c7b0 := eq_true c7
     have c7b1 : decide (0 ≤ x6_1) = true := decide_eq_true c7
     clear c7
     by_cases c8 : x6_1 ≤ x7_1
     rotate_left
     ·rw [if_neg c8] at H
      exact ab H
     rw [if_pos c8] at H
     have c8b0 := eq_true c8
     have c8b1 : decide (x6_1 ≤ x7_1) = true := decide_eq_true c8
     clear c8
     by_cases c9 : x7_1 ≤ (a0.size : Int)
     rotate_left
     ·rw [if_neg c9] at H
      exact ab H
     rw [if_pos c9] at H
     have c9b0 := eq_true c9
     have c9b1 : decide (x7_1 ≤ (a0.size : Int)) = true := decide_eq_true c9
     clear c9
     by_cases c10 : x5_1.length < 8796093022208
     rotate_left
     ·rw [if_neg c10] at H
      exact ab H
     rw [if_pos c10] at H
     have LMc10 := Aside0.mk c10
     clear c10
     obtain ⟨y240, hy240⟩ : ∃ y_ : List ByteArray, y_ = (x5_1 ++ [a0.extract (x6_1 : Int).toNat (x7_1 : Int).toNat]) := ⟨_, rfl⟩
     replace H : (postriderref04_Split.l0 k1 a0 a1 y240 (wrap64 (x7_1 + 1)) (wrap64 (x7_1 + 1))) = some r := by first | (rw [hy240]; with_reducible exact H) | (have H2_ := (Option.bind_some _ _).symm.trans H; rw [hy240]; with_reducible exact H2_) | (have H2_ := (Option.bind_some _ _).symm.trans H; with_reducible exact H2_) | with_reducible exact H | (rw [hy240]; exact H) | exact H
     have Ny240 := Aside0.mk hy240
     clear hy240
     have H' := Aside0.mk H
     clear H
     have p5 : 0 ≤ (x7_1 : Int) := od
     have q5 : x7_1 < (a0.size : Int) := od
     have hx5 := bt_at a0 x7_1
     replace p5 := eq_true p5
     replace q5 := eq_true q5
     go_wp2_with (first | ((with_reducible refine gate_builtin (b := .append) (xs := #[.tmp 19, .tmp 24]) rfl ?_); at_builtin; refine Kd.R_append Kd.string (w0 := w) w.heap.size rfl (.tmp 19) (.tmp 24) 84 9 (.string ⟨#[]⟩) 16 rfl Tryz.underlying84 info9 rfl (by decide) (by omega) u5 x5_1 (a0.extract (x6_1 : Int).toNat (x7_1 : Int).toNat) [.string (a0.extract (x6_1 : Int).toNat (x7_1 : Int).toNat)] (fun _ => True) (fun _ => False) rfl rfl ?aP (fun _ hk => hk.elim) ?aF ?aO ?aB ?aS ?aL ?_; (case aP => exact rfl); (case aB => exact bl); (case aF => exact (fun _ _ => trivial)); (case aO => exact (kr HO_5.out)); (case aS => exact (below_size bl)); (case aL => have := LMc10.out; omega); intro v241 w11 ho hb hg hat; rw [← Ny240.out] at ho; replace HB := Aside0.mk (hb); have HO242 := Aside0.mk (ho); clear HO_5 ho hb hg hat))
     go_roundg k1
     case measure => have := HK1.out; omega
     case rel => exact ⟨(y240), (wrap64 (x7_1 + 1)), (wrap64 (x7_1 + 1)), rs, rs, H', ⟨by have := HK1.out; omega⟩, ⟨kr HO242.out⟩, ⟨bl⟩⟩
    ·rw [if_neg c6] at H
     have c6b0 : ((bt a0 x7_1) == a1) = false := beq_eq_false_iff_ne.mpr c6
     have c6b1 : ((bt a0 x7_1) != a1) = true := bne_iff_ne.mpr c6
     have H' := Aside0.mk H
     clear H
     have p5 : 0 ≤ (x7_1 : Int) := od
     have q5 : x7_1 < (a0.size : Int) := od
     have hx5 := bt_at a0 x7_1
     replace p5 := eq_true p5
     replace q5 := eq_true q5
     go_wp2
     go_roundg k1
     case measure => have := HK1.out; omega
     case rel => exact ⟨(x5_1), (x6_1), (wrap64 (x7_1 + 1)), rs, rs, H', ⟨by have := HK1.out; omega⟩, ⟨kr HO_5.out⟩, ⟨bl⟩⟩
   ·rw [if_neg c3] at H
    have c3b0 : decide (x7_1 < (a0.size : Int)) = false := decide_eq_false c3
    clear c3
    by_cases c12 : 0 ≤ x6_1
    rotate_left
    ·rw [if_neg c12] at H
     exact ab H
    rw [if_pos c12] at H
    have c12b0 := eq_true c12
    have c12b1 : decide (0 ≤ x6_1) = true := decide_eq_true c12
    clear c12
    by_cases c13 : x6_1 ≤ (a0.size : Int)
    rotate_left
    ·rw [if_neg c13] at H
     exact ab H
    rw [if_pos c13] at H
    have c13b0 := eq_true c13
    have c13b1 : decide (x6_1 ≤ (a0.size : Int)) = true := decide_eq_true c13
    clear c13
    by_cases c14 : x5_1.length < 8796093022208
    rotate_left
    ·rw [if_neg c14] at H
     exact ab H
    rw [if_pos c14] at H
    have LMc14 := Aside0.mk c14
    clear c14
    obtain ⟨y243, hy243⟩ : ∃ y_ : List ByteArray, y_ = (x5_1 ++ [a0.extract (x6_1 : Int).toNat a0.size]) := ⟨_, rfl⟩
    replace H : (some y243) = some r := by first | (rw [hy243]; with_reducible exact H) | (have H2_ := (Option.bind_some _ _).symm.trans H; rw [hy243]; with_reducible exact H2_) | (have H2_ := (Option.bind_some _ _).symm.trans H; with_reducible exact H2_) | with_reducible exact H | (rw [hy243]; exact H) | exact H
    have Ny243 := Aside0.mk hy243
    clear hy243
    obtain rfl := Option.some.inj H
    go_wp2_with (first | ((with_reducible refine gate_builtin (b := .append) (xs := #[.tmp 28, .tmp 32]) rfl ?_); at_builtin; refine Kd.R_append Kd.string (w0 := w) w.heap.size rfl (.tmp 28) (.tmp 32) 84 9 (.string ⟨#[]⟩) 16 rfl Tryz.underlying84 info9 rfl (by decide) (by omega) u5 x5_1 (a0.extract (x6_1 : Int).toNat a0.size) [.string (a0.extract (x6_1 : Int).toNat a0.size)] (fun _ => True) (fun _ => False) rfl rfl ?aP (fun _ hk => hk.elim) ?aF ?aO ?aB ?aS ?aL ?_; (case aP => exact rfl); (case aB => exact bl); (case aF => exact (fun _ _ => trivial)); (case aO => exact (kr HO_5.out)); (case aS => exact (below_size bl)); (case aL => have := LMc14.out; omega); intro v244 w15 ho hb hg hat; rw [← Ny243.out] at ho; replace HB := Aside0.mk (hb); have HO245 := Aside0.mk (ho); clear HO_5 ho hb hg hat))
    go_ret
    exact ⟨_, by first | rfl | (simp [errW_none, errW_some] <;> rfl) | (simp [*, errW_none, errW_some] <;> rfl), kr HO245.out, bl⟩

/-! ### postriderref04_Number: function 161 -/
mutual
def postriderref04_Number.j0 : Nat → ByteArray → Int → Option (Int × Int)
 | 0, _, _ => none
 | k + 1, x0, x1 => if x1 > 15 then (postriderref04_Number.j1 k x0 15) else (postriderref04_Number.j1 k x0 x1)
def postriderref04_Number.j1 : Nat → ByteArray → Int → Option (Int × Int)
 | 0, _, _ => none
 | k + 1, x0, x1 => if (x0.size : Int) < 1 then (postriderref04_Number.j2 k x0 true) else (postriderref04_Number.j2 k x0 (decide ((x0.size : Int) > x1)))
def postriderref04_Number.j2 : Nat → ByteArray → Bool → Option (Int × Int)
 | 0, _, _ => none
 | k + 1, x0, x20 => if x20 = true then (some (0, 5)) else (postriderref04_Number.l0 k x0 0 0)
def postriderref04_Number.l0 : Nat → ByteArray → Int → Int → Option (Int × Int)
 | 0, _, _, _ => none
 | k + 1, x0, x6, x7 => if x7 < (x0.size : Int) then (if 0 ≤ x7 then (if (bt x0 x7) < 48 then (some (0, 5)) else (if (bt x0 x7) > 57 then (some (0, 5)) else (postriderref04_Number.l0 k x0 (wrap64 ((wrap64 (10 * x6)) + (((bt x0 x7) - 48) % 256))) (wrap64 (x7 + 1))))) else (none)) else (some (x6, 0))
end
def postriderref04_Number.f (k : Nat) (a0 : ByteArray) (a1 : Int) : Option (Int × Int) := if a1 < 1 then (postriderref04_Number.j0 k a0 1) else (postriderref04_Number.j0 k a0 a1)
theorem postriderref04_Number.mono_l : ∀ k, (∀ y0 y1, LeO (postriderref04_Number.j0 k y0 y1) (postriderref04_Number.j0 (k + 1) y0 y1)) ∧ (∀ y0 y1, LeO (postriderref04_Number.j1 k y0 y1) (postriderref04_Number.j1 (k + 1) y0 y1)) ∧ (∀ y0 y1, LeO (postriderref04_Number.j2 k y0 y1) (postriderref04_Number.j2 (k + 1) y0 y1)) ∧ (∀ y0 y1 y2, LeO (postriderref04_Number.l0 k y0 y1 y2) (postriderref04_Number.l0 (k + 1) y0 y1 y2))
 | 0 => ⟨fun _ _ r h => by simp [postriderref04_Number.j0] at h, fun _ _ r h => by simp [postriderref04_Number.j1] at h, fun _ _ r h => by simp [postriderref04_Number.j2] at h, fun _ _ _ r h => by simp [postriderref04_Number.l0] at h⟩
 | k + 1 => by
  obtain ⟨ih0, ih1, ih2, ih3⟩ := postriderref04_Number.mono_l k
  refine ⟨?_, ?_, ?_, ?_⟩
  ·intro y0 y1
   unfold postriderref04_Number.j0
   repeat' first
   | (with_reducible first | exact ih0 _ _ | exact ih1 _ _ | exact ih2 _ _ | exact ih3 _ _ _ | exact LeO.refl _ | exact LeO.none _ | refine LeO.ite ?_ ?_ | refine LeO.bind ?_ (fun _ => ?_))
  ·intro y0 y1
   unfold postriderref04_Number.j1
   repeat' first
   | (with_reducible first | exact ih0 _ _ | exact ih1 _ _ | exact ih2 _ _ | exact ih3 _ _ _ | exact LeO.refl _ | exact LeO.none _ | refine LeO.ite ?_ ?_ | refine LeO.bind ?_ (fun _ => ?_))
  ·intro y0 y1
   unfold postriderref04_Number.j2
   repeat' first
   | (with_reducible first | exact ih0 _ _ | exact ih1 _ _ | exact ih2 _ _ | exact ih3 _ _ _ | exact LeO.refl _ | exact LeO.none _ | refine LeO.ite ?_ ?_ | refine LeO.bind ?_ (fun _ => ?_))
  ·intro y0 y1 y2
   unfold postriderref04_Number.l0
   repeat' first
   | (with_reducible first | exact ih0 _ _ | exact ih1 _ _ | exact ih2 _ _ | exact ih3 _ _ _ | exact LeO.refl _ | exact LeO.none _ | refine LeO.ite ?_ ?_ | refine LeO.bind ?_ (fun _ => ?_))
theorem postriderref04_Number.mono : ∀ a0 a1 k, LeO (postriderref04_Number.f k a0 a1) (postriderref04_Number.f (k + 1) a0 a1) := by
 intro a0 a1 k
 obtain ⟨ih0, ih1, ih2, ih3⟩ := postriderref04_Number.mono_l k
 unfold postriderref04_Number.f
 repeat' first
   | (with_reducible first | exact ih0 _ _ | exact ih1 _ _ | exact ih2 _ _ | exact ih3 _ _ _ | exact LeO.refl _ | exact LeO.none _ | refine LeO.ite ?_ ?_ | refine LeO.bind ?_ (fun _ => ?_))
theorem postriderref04_Number.calls (k : Nat) (a0 : ByteArray) (a1 : Int) (r1 : Int) (r2 : Int) (w : World) (h : postriderref04_Number.f k a0 a1 = some (r1, r2)) :
  Calls Tryz.prog 161 #[.string a0, .int .i64 a1] w fun e w' => e = .returned (.tuple #[.int .i64 r1, .int .i64 r2]) ∧ Drawn0 w w' := by
 have H : (if a1 < 1 then (postriderref04_Number.j0 k a0 1) else (postriderref04_Number.j0 k a0 a1)) = some (r1, r2) := h
 clear h
 have HC3 := Aside0.mk H
 clear H
 go_enter Tryz.func161, Tryz.ntmps161
 go_upto_if 9 with (fail)
 go_cut [1] (fun v1 wc => ∃ (kq : Nat) (x1_2 : Int), v1 = .int .i64 x1_2 ∧ Aside0 (postriderref04_Number.j0 kq a0 x1_2 = some (r1, r2)) ∧ Aside0 (kq ≤ k) ∧ Drawn0 w wc)
 case first =>
  have H := HC3.out
  clear HC3
  by_cases c4 : a1 < 1
  ·rw [if_pos c4] at H
   have c4b0 : decide (a1 < 1) = true := decide_eq_true c4
   clear c4
   (first | rw [c4b0] | (simp only [i64_w, i32_w]; rw [c4b0]) | skip)
   have H' := Aside0.mk H
   clear H
   go_wp2
   go_meet
   case rel => exact ⟨_, (1), rs, H', ⟨by first | omega | exact Nat.le_refl _⟩, dr⟩
  ·rw [if_neg c4] at H
   have c4b0 : decide (a1 < 1) = false := decide_eq_false c4
   clear c4
   (first | rw [c4b0] | (simp only [i64_w, i32_w]; rw [c4b0]) | skip)
   have H' := Aside0.mk H
   clear H
   go_wp2
   go_meet
   case rel => exact ⟨_, (a1), rs, H', ⟨by first | omega | exact Nat.le_refl _⟩, dr⟩
 case rest =>
  clear HC3
  try clear c1
  try clear p2
  try clear c4
  try clear c4b0
  obtain ⟨kq, x1_2, rfl, HA, HJ2, ⟨mc2, rfl⟩⟩ := hcut
  cases kq with
  | zero => exact absurd HA.out (by simp [postriderref04_Number.j0])
  | succ kj2 =>
   have H := HA.out
   clear HA
   simp only [postriderref04_Number.j0] at H
   have HC5 := Aside0.mk H
   clear H
   go_upto_if 11 with (fail)
   go_cut [1] (fun v1 wc => ∃ (kq : Nat) (x1_4 : Int), v1 = .int .i64 x1_4 ∧ Aside0 (postriderref04_Number.j1 kq a0 x1_4 = some (r1, r2)) ∧ Aside0 (kq ≤ kj2) ∧ Drawn0 w wc)
   case first =>
    have H := HC5.out
    clear HC5
    by_cases c6 : x1_2 > 15
    ·rw [if_pos c6] at H
     have c6b0 : decide (15 < x1_2) = true := decide_eq_true c6
     clear c6
     (first | rw [c6b0] | (simp only [i64_w, i32_w]; rw [c6b0]) | skip)
     have H' := Aside0.mk H
     clear H
     go_wp2
     go_meet
     case rel => exact ⟨_, (15), rs, H', ⟨by have := HJ2.out; first | omega | exact Nat.le_refl _⟩, dr⟩
    ·rw [if_neg c6] at H
     have c6b0 : decide (15 < x1_2) = false := decide_eq_false c6
     clear c6
     (first | rw [c6b0] | (simp only [i64_w, i32_w]; rw [c6b0]) | skip)
     have H' := Aside0.mk H
     clear H
     go_wp2
     go_meet
     case rel => exact ⟨_, (x1_2), rs, H', ⟨by have := HJ2.out; first | omega | exact Nat.le_refl _⟩, dr⟩
   case rest =>
    clear HC5
    try clear c1
    try clear c2
    try clear p2
    try clear c4
    try clear c4b0
    try clear c6
    try clear c6b0
    try clear p2
    obtain ⟨kq, x1_4, rfl, HA, HJ4, ⟨mc4, rfl⟩⟩ := hcut
    cases kq with
    | zero => exact absurd HA.out (by simp [postriderref04_Number.j1])
    | succ kj4 =>
     have H := HA.out
     clear HA
     simp only [postriderref04_Number.j1] at H
     have HC7 := Aside0.mk H
     clear H
     go_upto_region 5 with (fail)
     go_cut [20] (fun v20 wc => ∃ (kq : Nat) (x20_6 : Bool), v20 = .bool x20_6 ∧ Aside0 (postriderref04_Number.j2 kq a0 x20_6 = some (r1, r2)) ∧ Aside0 (kq ≤ kj4) ∧ Drawn0 w wc)
     case first =>
      have H := HC7.out
      clear HC7
      by_cases c8 : (a0.size : Int) < 1
      ·rw [if_pos c8] at H
       have c8b0 : decide ((a0.size : Int) < 1) = true := decide_eq_true c8
       have c8b1 : decide (a0.size < 1) = true := decide_eq_true (by omega)
       clear c8
       (first | rw [c8b0] | (simp only [i64_w, i32_w]; rw [c8b0]) | skip)
       have H' := Aside0.mk H
       clear H
       go_wp2
       go_meet
       case rel => exact ⟨_, (true), rs, H', ⟨by have := HJ2.out; have := HJ4.out; first | omega | exact Nat.le_refl _⟩, dr⟩
      ·rw [if_neg c8] at H
       have c8b0 : decide ((a0.size : Int) < 1) = false := decide_eq_false c8
       have c8b1 : decide (a0.size < 1) = false := decide_eq_false (by omega)
       clear c8
       (first | rw [c8b0] | (simp only [i64_w, i32_w]; rw [c8b0]) | skip)
       have H' := Aside0.mk H
       clear H
       go_wp2
       go_meet
       case rel => exact ⟨_, (decide ((a0.size : Int) > x1_4)), rs, H', ⟨by have := HJ2.out; have := HJ4.out; first | omega | exact Nat.le_refl _⟩, dr⟩
     case rest =>
      clear HC7
      try clear c1
      try clear c2
      try clear p2
      try clear c4
      try clear c4b0
      try clear c6
      try clear c6b0
      try clear c8
      try clear c8b0
      try clear c8b1
      try clear p2
      obtain ⟨kq, x20_6, rfl, HA, HJ6, ⟨mc6, rfl⟩⟩ := hcut
      cases kq with
      | zero => exact absurd HA.out (by simp [postriderref04_Number.j2])
      | succ kj6 =>
       have H := HA.out
       clear HA
       simp only [postriderref04_Number.j2] at H
       by_cases c9 : x20_6 = true
       ·subst c9
        replace H : (some (0, 5)) = some (r1, r2) := by rw [if_pos rfl] at H; exact H
        simp only [Option.some.injEq, Prod.mk.injEq] at H
        obtain ⟨rfl, rfl⟩ := H
        go_wp2
        go_ret2
        exact ⟨by first | rfl | (simp [bneNil]; done) | (simp; done) | (simp [*]; done), dr⟩
       ·replace c9 := Bool.eq_false_iff.mpr c9
        subst c9
        replace H : (postriderref04_Number.l0 kj6 a0 0 0) = some (r1, r2) := by rw [if_neg (show ¬ (false = true) by decide)] at H; exact H
        have H' := Aside0.mk H
        clear H
        go_wp2
        go_loopg [6, 7] kj6 (fun kq v6 v7 w' => ∃ (x6_4 : Int) (x7_4 : Int), v6 = .int .i64 x6_4 ∧ v7 = .int .i64 x7_4 ∧ Aside0 (postriderref04_Number.l0 kq a0 x6_4 x7_4 = some (r1, r2)) ∧ Aside0 (kq ≤ kj6) ∧ Drawn0 w w')
        case atStart => exact ⟨(0), (0), rs, rs, H', ⟨Nat.le_refl _⟩, dr⟩
        case round =>
         clear H'
         try clear c1
         try clear c2
         try clear p2
         try clear c4
         try clear c4b0
         try clear c6
         try clear c6b0
         try clear c8
         try clear c8b0
         try clear c8b1
         try clear c9
         try clear p2
         obtain ⟨x6_4, x7_4, rfl, rfl, HA, HK4, ⟨m4, rfl⟩⟩ := hrel
         cases gk with
         | zero => exact absurd HA.out (by simp [postriderref04_Number.l0])
         | succ k4 =>
          have H := HA.out
          clear HA
          simp only [postriderref04_Number.l0] at H
          by_cases c10 : x7_4 < (a0.size : Int)
          ·rw [if_pos c10] at H
           have c10b0 : decide (x7_4 < (a0.size : Int)) = true := decide_eq_true c10
           clear c10
           by_cases c11 : 0 ≤ x7_4
           rotate_left
           ·rw [if_neg c11] at H
            exact ab H
           rw [if_pos c11] at H
           have c11b0 : decide (0 ≤ x7_4) = true := decide_eq_true c11
           clear c11
           by_cases c13 : (bt a0 x7_4) < 48
           ·rw [if_pos c13] at H
            have c13b0 : decide ((bt a0 x7_4) < 48) = true := decide_eq_true c13
            clear c13
            simp only [Option.some.injEq, Prod.mk.injEq] at H
            obtain ⟨rfl, rfl⟩ := H
            have p12 : 0 ≤ (x7_4 : Int) := od
            have q12 : x7_4 < (a0.size : Int) := od
            have hx12 := bt_at a0 x7_4
            replace p12 := eq_true p12
            replace q12 := eq_true q12
            go_wp2
            go_ret2
            exact ⟨by first | rfl | (simp [bneNil]; done) | (simp; done) | (simp [*]; done), dr⟩
           ·rw [if_neg c13] at H
            have c13b0 : decide ((bt a0 x7_4) < 48) = false := decide_eq_false c13
            clear c13
            by_cases c15 : (bt a0 x7_4) > 57
            ·rw [if_pos c15] at H
             have c15b0 : decide (57 < (bt a0 x7_4)) = true := decide_eq_true c15
             clear c15
             simp only [Option.some.injEq, Prod.mk.injEq] at H
             obtain ⟨rfl, rfl⟩ := H
             have p12 : 0 ≤ (x7_4 : Int) := od
             have q12 : x7_4 < (a0.size : Int) := od
             have hx12 := bt_at a0 x7_4
             replace p12 := eq_true p12
             replace q12 := eq_true q12
             have p14 : 0 ≤ (x7_4 : Int) := od
             have q14 : x7_4 < (a0.size : Int) := od
             have hx14 := bt_at a0 x7_4
             replace p14 := eq_true p14
             replace q14 := eq_true q14
             go_wp2
             go_ret2
             exact ⟨by first | rfl | (simp [bneNil]; done) | (simp; done) | (simp [*]; done), dr⟩
            ·rw [if_neg c15] at H
             have c15b0 : decide (57 < (bt a0 x7_4)) = false := decide_eq_false c15
             clear c15
             have H' := Aside0.mk H
             clear H
             have p12 : 0 ≤ (x7_4 : Int) := od
             have q12 : x7_4 < (a0.size : Int) := od
             have hx12 := bt_at a0 x7_4
             replace p12 := eq_true p12
             replace q12 := eq_true q12
             have p14 : 0 ≤ (x7_4 : Int) := od
             have q14 : x7_4 < (a0.size : Int) := od
             have hx14 := bt_at a0 x7_4
             replace p14 := eq_true p14
             replace q14 := eq_true q14
             have p16 : 0 ≤ (x7_4 : Int) := od
             have q16 : x7_4 < (a0.size : Int) := od
             have hx16 := bt_at a0 x7_4
             replace p16 := eq_true p16
             replace q16 := eq_true q16
             go_wp2
             go_roundg k4
             case measure => have := HJ2.out; have := HJ4.out; have := HJ6.out; have := HK4.out; omega
             case rel => exact ⟨(wrap64 ((wrap64 (10 * x6_4)) + (((bt a0 x7_4) - 48) % 256))), (wrap64 (x7_4 + 1)), rs, rs, H', ⟨by have := HJ2.out; have := HJ4.out; have := HJ6.out; have := HK4.out; omega⟩, dr⟩
          ·rw [if_neg c10] at H
           have c10b0 : decide (x7_4 < (a0.size : Int)) = false := decide_eq_false c10
           clear c10
           simp only [Option.some.injEq, Prod.mk.injEq] at H
           obtain ⟨rfl, rfl⟩ := H
           go_wp2
           go_ret2
           exact ⟨by first | rfl | (simp [bneNil]; done) | (simp; done) | (simp [*]; done), dr⟩

end Go.Proofs.YtacjnapgdikhbaaGreatDoor.Q
end
section
namespace Go.Proofs.YtacjnapgdikhbaaGreatDoor.Q

/-! ### postriderref05_literal: function 109 -/
mutual
def postriderref05_literal.j0 : Nat → ByteArray → Bool → Option (Bool)
 | 0, _, _ => none
 | k + 1, x0, x22 => if x22 = true then (some false) else (if 1 ≤ (wrap64 ((x0.size : Int) - 1)) then (if (wrap64 ((x0.size : Int) - 1)) ≤ (x0.size : Int) then ((postriderref04_Split.f k (x0.extract 1 ((wrap64 ((x0.size : Int) - 1)) : Int).toNat) 46).bind fun t246 => (if (t246.length : Int) = 4 then (postriderref05_literal.l0 k t246 0) else (some false))) else (none)) else (none))
def postriderref05_literal.l0 : Nat → List ByteArray → Int → Option (Bool)
 | 0, _, _ => none
 | k + 1, x3, x4 => if x4 < 4 then (if 0 ≤ x4 then (if x4 < (x3.length : Int) then ((postriderref04_Number.f k (rdOf ByteArray.empty x3 x4) 3).bind fun bt250 => (if bt250.2 = 0 then (if bt250.1 > 255 then (some false) else (if ((rdOf ByteArray.empty x3 x4).size : Int) > 1 then (if 0 < ((rdOf ByteArray.empty x3 x4).size : Int) then (if (bt (rdOf ByteArray.empty x3 x4) 0) = 48 then (some false) else (postriderref05_literal.l0 k x3 (wrap64 (x4 + 1)))) else (none)) else (postriderref05_literal.l0 k x3 (wrap64 (x4 + 1))))) else (some false))) else (none)) else (none)) else (some true)
end
def postriderref05_literal.f (k : Nat) (a0 : ByteArray) : Option (Bool) := if (a0.size : Int) < 2 then (postriderref05_literal.j0 k a0 true) else (if 0 < (a0.size : Int) then (if (bt a0 0) = 91 then (if 0 ≤ (wrap64 ((a0.size : Int) - 1)) then (if (wrap64 ((a0.size : Int) - 1)) < (a0.size : Int) then (postriderref05_literal.j0 k a0 ((bt a0 (wrap64 ((a0.size : Int) - 1))) != 93)) else (none)) else (none)) else (postriderref05_literal.j0 k a0 true)) else (none))
theorem postriderref05_literal.mono_l : ∀ k, (∀ y0 y1, LeO (postriderref05_literal.j0 k y0 y1) (postriderref05_literal.j0 (k + 1) y0 y1)) ∧ (∀ y0 y1, LeO (postriderref05_literal.l0 k y0 y1) (postriderref05_literal.l0 (k + 1) y0 y1))
 | 0 => ⟨fun _ _ r h => by simp [postriderref05_literal.j0] at h, fun _ _ r h => by simp [postriderref05_literal.l0] at h⟩
 | k + 1 => by
  obtain ⟨ih0, ih1⟩ := postriderref05_literal.mono_l k
  refine ⟨?_, ?_⟩
  ·intro y0 y1
   unfold postriderref05_literal.j0
   repeat' first
   | (with_reducible first | exact ih0 _ _ | exact ih1 _ _ | exact postriderref04_Number.mono _ _ _ | exact postriderref04_Split.mono _ _ _ | exact LeO.refl _ | exact LeO.none _ | refine LeO.ite ?_ ?_ | refine LeO.bind ?_ (fun _ => ?_))
  ·intro y0 y1
   unfold postriderref05_literal.l0
   repeat' first
   | (with_reducible first | exact ih0 _ _ | exact ih1 _ _ | exact postriderref04_Number.mono _ _ _ | exact postriderref04_Split.mono _ _ _ | exact LeO.refl _ | exact LeO.none _ | refine LeO.ite ?_ ?_ | refine LeO.bind ?_ (fun _ => ?_))
theorem postriderref05_literal.mono : ∀ a0 k, LeO (postriderref05_literal.f k a0) (postriderref05_literal.f (k + 1) a0) := by
 intro a0 k
 obtain ⟨ih0, ih1⟩ := postriderref05_literal.mono_l k
 unfold postriderref05_literal.f
 repeat' first
   | (with_reducible first | exact ih0 _ _ | exact ih1 _ _ | exact postriderref04_Number.mono _ _ _ | exact postriderref04_Split.mono _ _ _ | exact LeO.refl _ | exact LeO.none _ | refine LeO.ite ?_ ?_ | refine LeO.bind ?_ (fun _ => ?_))
theorem postriderref05_literal.calls (k : Nat) (a0 : ByteArray) (r : Bool) (w : World) (h : postriderref05_literal.f k a0 = some r) :
  Calls Tryz.prog 109 #[.string a0] w fun e w' => e = .returned (.bool r) ∧ Below w.heap.size w w' := by
 have HB := Aside0.mk (Below.refl w.heap.size w)
 have H : (if (a0.size : Int) < 2 then (postriderref05_literal.j0 k a0 true) else (if 0 < (a0.size : Int) then (if (bt a0 0) = 91 then (if 0 ≤ (wrap64 ((a0.size : Int) - 1)) then (if (wrap64 ((a0.size : Int) - 1)) < (a0.size : Int) then (postriderref05_literal.j0 k a0 ((bt a0 (wrap64 ((a0.size : Int) - 1))) != 93)) else (none)) else (none)) else (postriderref05_literal.j0 k a0 true)) else (none))) = some r := h
 clear h
 have HC2 := Aside0.mk H
 clear H
 go_enter Tryz.func109, Tryz.ntmps109
 go_upto_region 1 with (fail)
 go_cut [22] (fun v22 wc => ∃ (kq : Nat) (x22_1 : Bool), v22 = .bool x22_1 ∧ Aside0 (postriderref05_literal.j0 kq a0 x22_1 = some r) ∧ Aside0 (kq ≤ k) ∧ Aside0 (Below w.heap.size w wc))
 case first =>
  have H := HC2.out
  clear HC2
  by_cases c3 : (a0.size : Int) < 2
  ·rw [if_pos c3] at H
   have c3b0 : decide ((a0.size : Int) < 2) = true := decide_eq_true c3
   have c3b1 : decide (a0.size < 2) = true := decide_eq_true (by omega)
   clear c3
   (first | rw [c3b0] | (simp only [i64_w, i32_w]; rw [c3b0]) | skip)
   have H' := Aside0.mk H
   clear H
   go_wp2
   go_meet
   case rel => exact ⟨_, (true), rs, H', ⟨by first | omega | exact Nat.le_refl _⟩, ⟨bl⟩⟩
  ·rw [if_neg c3] at H
   have c3b0 : decide ((a0.size : Int) < 2) = false := decide_eq_false c3
   have c3b1 : decide (a0.size < 2) = false := decide_eq_false (by omega)
   clear c3
   (first | rw [c3b0] | (simp only [i64_w, i32_w]; rw [c3b0]) | skip)
   by_cases c4 : 0 < (a0.size : Int)
   rotate_left
   ·rw [if_neg c4] at H
    exact ab H
   rw [if_pos c4] at H
   have c4b0 : decide (0 < (a0.size : Int)) = true := decide_eq_true c4
   have c4b1 : decide (0 < a0.size) = true := decide_eq_true (by omega)
   clear c4
   by_cases c6 : (bt a0 0) = 91
   ·rw [if_pos c6] at H
    have c6b0 : ((bt a0 0) == 91) = true := beq_iff_eq.mpr c6
    have c6b1 : ((bt a0 0) != 91) = false := bne_eq_false_iff_eq.mpr c6
    clear c6
    obtain ⟨ji7, hji7⟩ : ∃ j_ : Int, (wrap64 ((a0.size : Int) - 1)) = j_ := ⟨_, rfl⟩
    replace H : (if 0 ≤ (ji7) then (if (ji7) < (a0.size : Int) then (postriderref05_literal.j0 k a0 ((bt a0 (ji7)) != 93)) else (none)) else (none)) = some r := by first | (rw [hji7] at H; exact H) | (simp only [hji7] at H ⊢; exact H)
    have hji7w : (IntKind.i64.wrap ((a0.size : Int) - 1)) = ji7 := (i64_w _).trans hji7
    by_cases c8 : 0 ≤ (ji7)
    rotate_left
    ·rw [if_neg c8] at H
     exact ab H
    rw [if_pos c8] at H
    have c8b0 : decide (0 ≤ (ji7)) = true := decide_eq_true c8
    clear c8
    by_cases c9 : (ji7) < (a0.size : Int)
    rotate_left
    ·rw [if_neg c9] at H
     exact ab H
    rw [if_pos c9] at H
    have c9b0 : decide ((ji7) < (a0.size : Int)) = true := decide_eq_true c9
    clear c9
    have H' := Aside0.mk H
    clear H
    have p5 : 0 ≤ (0 : Int) := (by omega)
    have q5 : 0 < a0.size := (by have : (0 : Int) < (a0.size : Int) := od; omega)
    have hx5 : ∀ h : 0 < a0.size, ((a0[0]'h).toNat : Int) = bt a0 0 := bt_at a0 0
    clear p5
    have qi5 : (0 < (a0.size : Int)) = True := eq_true (od)
    replace q5 := eq_true q5
    have p10 : 0 ≤ ((ji7) : Int) := od
    have q10 : (ji7) < (a0.size : Int) := od
    have hx10 := bt_at a0 (ji7)
    replace p10 := eq_true p10
    replace q10 := eq_true q10
    go_wp2
    go_meet
    case rel => exact ⟨_, (((bt a0 (ji7)) != 93)), (by first | rfl | (simp; done) | (simp only [← hji7] <;> (first | rfl | simp)) | (simp [*]; done)), H', ⟨by first | omega | exact Nat.le_refl _⟩, ⟨bl⟩⟩
   ·rw [if_neg c6] at H
    have c6b0 : ((bt a0 0) == 91) = false := beq_eq_false_iff_ne.mpr c6
    have c6b1 : ((bt a0 0) != 91) = true := bne_iff_ne.mpr c6
    have H' := Aside0.mk H
    clear H
    have p5 : 0 ≤ (0 : Int) := (by omega)
    have q5 : 0 < a0.size := (by have : (0 : Int) < (a0.size : Int) := od; omega)
    have hx5 : ∀ h : 0 < a0.size, ((a0[0]'h).toNat : Int) = bt a0 0 := bt_at a0 0
    clear p5
    have qi5 : (0 < (a0.size : Int)) = True := eq_true (od)
    replace q5 := eq_true q5
    go_wp2
    go_meet
    case rel => exact ⟨_, (true), rs, H', ⟨by first | omega | exact Nat.le_refl _⟩, ⟨bl⟩⟩
 case rest =>
  clear HC2
  try clear c1
  try clear p1
  try clear q1
  try clear hx1
  try clear p2
  try clear c3
  try clear c3b0
  try clear c3b1
  try clear c4
  try clear c4b0
  try clear c4b1
  try clear p5
  try clear q5
  try clear hx5
  try clear qi5
  try clear c6
  try clear c6b0
  try clear c6b1
  try clear p6
  try clear c8
  try clear c8b0
  try clear c9
  try clear c9b0
  try clear c10
  try clear p10
  try clear q10
  try clear hx10
  try clear p10
  try clear p5
  try clear q10
  try clear q5
  obtain ⟨kq, x22_1, rfl, HA, HJ1, HB⟩ := hcut
  cases kq with
  | zero => exact absurd HA.out (by simp [postriderref05_literal.j0])
  | succ kj1 =>
   have H := HA.out
   clear HA
   simp only [postriderref05_literal.j0] at H
   by_cases c11 : x22_1 = true
   ·subst c11
    replace H : (some false) = some r := by rw [if_pos rfl] at H; exact H
    obtain rfl := Option.some.inj H
    go_wp2
    go_ret
    exact ⟨rf, bl⟩
   ·replace c11 := Bool.eq_false_iff.mpr c11
    subst c11
    replace H : (if 1 ≤ (wrap64 ((a0.size : Int) - 1)) then (if (wrap64 ((a0.size : Int) - 1)) ≤ (a0.size : Int) then ((postriderref04_Split.f kj1 (a0.extract 1 ((wrap64 ((a0.size : Int) - 1)) : Int).toNat) 46).bind fun t246 => (if (t246.length : Int) = 4 then (postriderref05_literal.l0 kj1 t246 0) else (some false))) else (none)) else (none)) = some r := by rw [if_neg (show ¬ (false = true) by decide)] at H; exact H
    by_cases c12 : 1 ≤ (wrap64 ((a0.size : Int) - 1))
    rotate_left
    ·rw [if_neg c12] at H
     exact ab H
    rw [if_pos c12] at H
    have c12b0 := eq_true c12
    have c12b1 : decide (1 ≤ (wrap64 ((a0.size : Int) - 1))) = true := decide_eq_true c12
    clear c12
    by_cases c13 : (wrap64 ((a0.size : Int) - 1)) ≤ (a0.size : Int)
    rotate_left
    ·rw [if_neg c13] at H
     exact ab H
    rw [if_pos c13] at H
    have c13b0 := eq_true c13
    have c13b1 : decide ((wrap64 ((a0.size : Int) - 1)) ≤ (a0.size : Int)) = true := decide_eq_true c13
    clear c13
    obtain ⟨t246, A140, H⟩ := Option.bind_eq_some_iff.mp H
    replace H : (if (t246.length : Int) = 4 then (postriderref05_literal.l0 kj1 t246 0) else (some false)) = some r := H
    have A14 := Aside0.mk A140
    clear A140
    by_cases c15 : (t246.length : Int) = 4
    ·rw [if_pos c15] at H
     have c15b0 : ((t246.length : Int) == 4) = true := beq_iff_eq.mpr c15
     have c15b1 : ((t246.length : Int) != 4) = false := bne_eq_false_iff_eq.mpr c15
     clear c15
     have H' := Aside0.mk H
     clear H
     go_wp2_with (first | ((with_reducible refine gate_callee (f := 160) rfl ?_); refine goesL_ (some 28) rfl rfl Tryz.func160 kf rfl #[.string (a0.extract 1 ((wrap64 ((a0.size : Int) - 1)) : Int).toNat), .int .u8 46] rfl ml ?_; (with_reducible refine (postriderref04_Split.calls kj1 (a0.extract 1 ((wrap64 ((a0.size : Int) - 1)) : Int).toNat) 46 t246 _ A14.out).mono ?_); rintro e w16 ⟨v247, rfl, ho0, hb⟩; refine ⟨_, rfl, ?_⟩; have HO248 := Aside0.mk (Kd.R_lower ho0 (below_size bl)); replace HB := Aside0.mk (below_step bl hb); (try clear hb); (try clear hb2); (try clear hk); (try clear hi); (try clear ho0); obtain ⟨Ao17, co17, eo17⟩ := Kd.R_slice HO248.out; subst eo17))
     go_loopg [4] kj1 (fun kq v4 w' => ∃ (x4_2 : Int), v4 = .int .i64 x4_2 ∧ Aside0 (postriderref05_literal.l0 kq t246 x4_2 = some r) ∧ Aside0 (kq ≤ kj1) ∧ Aside0 (Kd.R Kd.string 9 w' w.heap.size (fun _ => True) (.slice Ao17 t246.length co17) t246) ∧ Aside0 (Below w.heap.size w w'))
     case atStart => exact ⟨(0), rs, H', ⟨Nat.le_refl _⟩, ⟨kr HO248.out⟩, ⟨bl⟩⟩
     case round =>
      clear H'
      try clear c1
      try clear p1
      try clear q1
      try clear hx1
      try clear p2
      try clear c3
      try clear c3b0
      try clear c3b1
      try clear c4
      try clear c4b0
      try clear c4b1
      try clear p5
      try clear q5
      try clear hx5
      try clear qi5
      try clear c6
      try clear c6b0
      try clear c6b1
      try clear p6
      try clear c8
      try clear c8b0
      try clear c9
      try clear c9b0
      try clear c10
      try clear p10
      try clear q10
      try clear hx10
      try clear c11
      try clear c12
      try clear c12b0
      try clear c12b1
      try clear c13
      try clear c13b0
      try clear c13b1
      try clear c15
      try clear c15b0
      try clear c15b1
      try clear c16
      try clear p1
      try clear p10
      try clear p2
      try clear p5
      try clear p6
      try clear q1
      try clear q10
      try clear q5
      obtain ⟨x4_2, rfl, HA, HK2, HO_3, HB⟩ := hrel
      cases gk with
      | zero => exact absurd HA.out (by simp [postriderref05_literal.l0])
      | succ k2 =>
       have H := HA.out
       clear HA
       simp only [postriderref05_literal.l0] at H
       by_cases c18 : x4_2 < 4
       ·rw [if_pos c18] at H
        have c18b0 : decide (x4_2 < 4) = true := decide_eq_true c18
        clear c18
        by_cases c19 : 0 ≤ x4_2
        rotate_left
        ·rw [if_neg c19] at H
         exact ab H
        rw [if_pos c19] at H
        have c19b0 : decide (0 ≤ x4_2) = true := decide_eq_true c19
        clear c19
        by_cases c20 : x4_2 < (t246.length : Int)
        rotate_left
        ·rw [if_neg c20] at H
         exact ab H
        rw [if_pos c20] at H
        have c20b0 : decide (x4_2 < (t246.length : Int)) = true := decide_eq_true c20
        clear c20
        obtain ⟨⟨t250, t251⟩, A210, H⟩ := Option.bind_eq_some_iff.mp H
        replace H : (if t251 = 0 then (if t250 > 255 then (some false) else (if ((rdOf ByteArray.empty t246 x4_2).size : Int) > 1 then (if 0 < ((rdOf ByteArray.empty t246 x4_2).size : Int) then (if (bt (rdOf ByteArray.empty t246 x4_2) 0) = 48 then (some false) else (postriderref05_literal.l0 k2 t246 (wrap64 (x4_2 + 1)))) else (none)) else (postriderref05_literal.l0 k2 t246 (wrap64 (x4_2 + 1))))) else (some false)) = some r := H
        have A21 := Aside0.mk A210
        clear A210
        by_cases c22 : t251 = 0
        ·rw [if_pos c22] at H
         have c22b0 : (t251 == 0) = true := beq_iff_eq.mpr c22
         have c22b1 : (t251 != 0) = false := bne_eq_false_iff_eq.mpr c22
         clear c22
         by_cases c23 : t250 > 255
         ·rw [if_pos c23] at H
          have c23b0 : decide (255 < t250) = true := decide_eq_true c23
          clear c23
          obtain rfl := Option.some.inj H
          have p249 : 0 ≤ (x4_2 : Int) := od
          have q249 : x4_2 < (t246.length : Int) := od
          obtain ⟨ad249, e249, hx249_0⟩ := Kd.at_string (Kd.R_reads' HO_3.out).2.2 x4_2 p249 q249
          cases e249
          replace p249 := eq_true p249
          replace q249 := eq_true q249
          go_wp2_with (first | ((with_reducible refine gate_callee (f := 161) rfl ?_); refine goesL_ (some 41) rfl rfl Tryz.func161 kf rfl #[.string (rdOf ByteArray.empty t246 x4_2), .int .i64 3] rfl ml ?_; (with_reducible refine (postriderref04_Number.calls k2 (rdOf ByteArray.empty t246 x4_2) 3 t250 t251 _ A21.out).mono ?_); rintro e w' ⟨rfl, ⟨nd, rfl⟩⟩; refine ⟨_, rfl, ?_⟩))
          go_ret
          exact ⟨rf, bl⟩
         ·rw [if_neg c23] at H
          have c23b0 : decide (255 < t250) = false := decide_eq_false c23
          clear c23
          by_cases c24 : ((rdOf ByteArray.empty t246 x4_2).size : Int) > 1
          ·rw [if_pos c24] at H
           have c24b0 : decide (1 < ((rdOf ByteArray.empty t246 x4_2).size : Int)) = true := decide_eq_true c24
           have c24b1 : decide (1 < (rdOf ByteArray.empty t246 x4_2).size) = true := decide_eq_true (by omega)
           clear c24
           by_cases c25 : 0 < ((rdOf ByteArray.empty t246 x4_2).size : Int)
           rotate_left
           ·rw [if_neg c25] at H
            exact ab H
           rw [if_pos c25] at H
           have c25b0 : decide (0 < ((rdOf ByteArray.empty t246 x4_2).size : Int)) = true := decide_eq_true c25
           have c25b1 : decide (0 < (rdOf ByteArray.empty t246 x4_2).size) = true := decide_eq_true (by omega)
           clear c25
           by_cases c27 : (bt (rdOf ByteArray.empty t246 x4_2) 0) = 48
           ·rw [if_pos c27] at H
            have c27b0 : ((bt (rdOf ByteArray.empty t246 x4_2) 0) == 48) = true := beq_iff_eq.mpr c27
            have c27b1 : ((bt (rdOf ByteArray.empty t246 x4_2) 0) != 48) = false := bne_eq_false_iff_eq.mpr c27
            clear c27
            obtain rfl := Option.some.inj H
            have p249 : 0 ≤ (x4_2 : Int) := od
            have q249 : x4_2 < (t246.length : Int) := od
            obtain ⟨ad249, e249, hx249_0⟩ := Kd.at_string (Kd.R_reads' HO_3.out).2.2 x4_2 p249 q249
            cases e249
            replace p249 := eq_true p249
            replace q249 := eq_true q249
            go_wp2_with (first | ((with_reducible refine gate_callee (f := 161) rfl ?_); refine goesL_ (some 41) rfl rfl Tryz.func161 kf rfl #[.string (rdOf ByteArray.empty t246 x4_2), .int .i64 3] rfl ml ?_; (with_reducible refine (postriderref04_Number.calls k2 (rdOf ByteArray.empty t246 x4_2) 3 t250 t251 _ A21.out).mono ?_); rintro e w' ⟨rfl, ⟨nd, rfl⟩⟩; refine ⟨_, rfl, ?_⟩; have p252 : 0 ≤ (x4_2 : Int) := od; have q252 : x4_2 < (t246.length : Int) := od; obtain ⟨ad252, e252, hx252_0⟩ := Kd.at_string (Kd.R_reads' HO_3.out).2.2 x4_2 p252 q252; obtain rfl : ad249 = ad252 := (by injection e252); replace p252 := eq_true p252; replace q252 := eq_true q252; have p253 : 0 ≤ (x4_2 : Int) := od; have q253 : x4_2 < (t246.length : Int) := od; obtain ⟨ad253, e253, hx253_0⟩ := Kd.at_string (Kd.R_reads' HO_3.out).2.2 x4_2 p253 q253; obtain rfl : ad249 = ad253 := (by injection e253); replace p253 := eq_true p253; replace q253 := eq_true q253; have p26 : 0 ≤ (0 : Int) := (by omega); have q26 : 0 < (rdOf ByteArray.empty t246 x4_2).size := (by have : (0 : Int) < ((rdOf ByteArray.empty t246 x4_2).size : Int) := od; omega); have hx26 : ∀ h : 0 < (rdOf ByteArray.empty t246 x4_2).size, (((rdOf ByteArray.empty t246 x4_2)[0]'h).toNat : Int) = bt (rdOf ByteArray.empty t246 x4_2) 0 := bt_at (rdOf ByteArray.empty t246 x4_2) 0; clear p26; have qi26 : (0 < ((rdOf ByteArray.empty t246 x4_2).size : Int)) = True := eq_true (od); replace q26 := eq_true q26))
            go_ret
            exact ⟨rf, bl⟩
           ·rw [if_neg c27] at H
            have c27b0 : ((bt (rdOf ByteArray.empty t246 x4_2) 0) == 48) = false := beq_eq_false_iff_ne.mpr c27
            have c27b1 : ((bt (rdOf ByteArray.empty t246 x4_2) 0) != 48) = true := bne_iff_ne.mpr c27
            have H' := Aside0.mk H
            clear H
            have p249 : 0 ≤ (x4_2 : Int) := od
            have q249 : x4_2 < (t246.length : Int) := od
            obtain ⟨ad249, e249, hx249_0⟩ := Kd.at_string (Kd.R_reads' HO_3.out).2.2 x4_2 p249 q249
            cases e249
            replace p249 := eq_true p249
            replace q249 := eq_true q249
            go_wp2_with (first | ((with_reducible refine gate_callee (f := 161) rfl ?_); refine goesL_ (some 41) rfl rfl Tryz.func161 kf rfl #[.string (rdOf ByteArray.empty t246 x4_2), .int .i64 3] rfl ml ?_; (with_reducible refine (postriderref04_Number.calls k2 (rdOf ByteArray.empty t246 x4_2) 3 t250 t251 _ A21.out).mono ?_); rintro e w' ⟨rfl, ⟨nd, rfl⟩⟩; refine ⟨_, rfl, ?_⟩; have p252 : 0 ≤ (x4_2 : Int) := od; have q252 : x4_2 < (t246.length : Int) := od; obtain ⟨ad252, e252, hx252_0⟩ := Kd.at_string (Kd.R_reads' HO_3.out).2.2 x4_2 p252 q252; obtain rfl : ad249 = ad252 := (by injection e252); replace p252 := eq_true p252; replace q252 := eq_true q252; have p253 : 0 ≤ (x4_2 : Int) := od; have q253 : x4_2 < (t246.length : Int) := od; obtain ⟨ad253, e253, hx253_0⟩ := Kd.at_string (Kd.R_reads' HO_3.out).2.2 x4_2 p253 q253; obtain rfl : ad249 = ad253 := (by injection e253); replace p253 := eq_true p253; replace q253 := eq_true q253; have p26 : 0 ≤ (0 : Int) := (by omega); have q26 : 0 < (rdOf ByteArray.empty t246 x4_2).size := (by have : (0 : Int) < ((rdOf ByteArray.empty t246 x4_2).size : Int) := od; omega); have hx26 : ∀ h : 0 < (rdOf ByteArray.empty t246 x4_2).size, (((rdOf ByteArray.empty t246 x4_2)[0]'h).toNat : Int) = bt (rdOf ByteArray.empty t246 x4_2) 0 := bt_at (rdOf ByteArray.empty t246 x4_2) 0; clear p26; have qi26 : (0 < ((rdOf ByteArray.empty t246 x4_2).size : Int)) = True := eq_true (od); replace q26 := eq_true q26))
            go_roundg k2
            case measure => have := HJ1.out; have := HK2.out; omega
            case rel => exact ⟨(wrap64 (x4_2 + 1)), rs, H', ⟨by have := HJ1.out; have := HK2.out; omega⟩, ⟨kr HO_3.out⟩, ⟨bl⟩⟩
          ·rw [if_neg c24] at H
           have c24b0 : decide (1 < ((rdOf ByteArray.empty t246 x4_2).size : Int)) = false := decide_eq_false c24
           have c24b1 : decide (1 < (rdOf ByteArray.empty t246 x4_2).size) = false := decide_eq_false (by omega)
           clear c24
           have H' := Aside0.mk H
           clear H
           have p249 : 0 ≤ (x4_2 : Int) := od
           have q249 : x4_2 < (t246.length : Int) := od
           obtain ⟨ad249, e249, hx249_0⟩ := Kd.at_string (Kd.R_reads' HO_3.out).2.2 x4_2 p249 q249
           cases e249
           replace p249 := eq_true p249
           replace q249 := eq_true q249
           go_wp2_with (first | ((with_reducible refine gate_callee (f := 161) rfl ?_); refine goesL_ (some 41) rfl rfl Tryz.func161 kf rfl #[.string (rdOf ByteArray.empty t246 x4_2), .int .i64 3] rfl ml ?_; (with_reducible refine (postriderref04_Number.calls k2 (rdOf ByteArray.empty t246 x4_2) 3 t250 t251 _ A21.out).mono ?_); rintro e w' ⟨rfl, ⟨nd, rfl⟩⟩; refine ⟨_, rfl, ?_⟩; have p252 : 0 ≤ (x4_2 : Int) := od; have q252 : x4_2 < (t246.length : Int) := od; obtain ⟨ad252, e252, hx252_0⟩ := Kd.at_string (Kd.R_reads' HO_3.out).2.2 x4_2 p252 q252; obtain rfl : ad249 = ad252 := (by injection e252); replace p252 := eq_true p252; replace q252 := eq_true q252))
           go_roundg k2
           case measure => have := HJ1.out; have := HK2.out; omega
           case rel => exact ⟨(wrap64 (x4_2 + 1)), rs, H', ⟨by have := HJ1.out; have := HK2.out; omega⟩, ⟨kr HO_3.out⟩, ⟨bl⟩⟩
        ·rw [if_neg c22] at H
         have c22b0 : (t251 == 0) = false := beq_eq_false_iff_ne.mpr c22
         have c22b1 : (t251 != 0) = true := bne_iff_ne.mpr c22
         obtain rfl := Option.some.inj H
         have p249 : 0 ≤ (x4_2 : Int) := od
         have q249 : x4_2 < (t246.length : Int) := od
         obtain ⟨ad249, e249, hx249_0⟩ := Kd.at_string (Kd.R_reads' HO_3.out).2.2 x4_2 p249 q249
         cases e249
         replace p249 := eq_true p249
         replace q249 := eq_true q249
         go_wp2_with (first | ((with_reducible refine gate_callee (f := 161) rfl ?_); refine goesL_ (some 41) rfl rfl Tryz.func161 kf rfl #[.string (rdOf ByteArray.empty t246 x4_2), .int .i64 3] rfl ml ?_; (with_reducible refine (postriderref04_Number.calls k2 (rdOf ByteArray.empty t246 x4_2) 3 t250 t251 _ A21.out).mono ?_); rintro e w' ⟨rfl, ⟨nd, rfl⟩⟩; refine ⟨_, rfl, ?_⟩))
         go_ret
         exact ⟨rf, bl⟩
       ·rw [if_neg c18] at H
        have c18b0 : decide (x4_2 < 4) = false := decide_eq_false c18
        clear c18
        obtain rfl := Option.some.inj H
        go_wp2
        go_ret
        exact ⟨rf, bl⟩
    ·rw [if_neg c15] at H
     have c15b0 : ((t246.length : Int) == 4) = false := beq_eq_false_iff_ne.mpr c15
     have c15b1 : ((t246.length : Int) != 4) = true := bne_iff_ne.mpr c15
     obtain rfl := Option.some.inj H
     go_wp2_with (first | ((with_reducible refine gate_callee (f := 160) rfl ?_); refine goesL_ (some 28) rfl rfl Tryz.func160 kf rfl #[.string (a0.extract 1 ((wrap64 ((a0.size : Int) - 1)) : Int).toNat), .int .u8 46] rfl ml ?_; (with_reducible refine (postriderref04_Split.calls kj1 (a0.extract 1 ((wrap64 ((a0.size : Int) - 1)) : Int).toNat) 46 t246 _ A14.out).mono ?_); rintro e w28 ⟨v247, rfl, ho0, hb⟩; refine ⟨_, rfl, ?_⟩; have HO248 := Aside0.mk (Kd.R_lower ho0 (below_size bl)); replace HB := Aside0.mk (below_step bl hb); (try clear hb); (try clear hb2); (try clear hk); (try clear hi); (try clear ho0); obtain ⟨Ao29, co29, eo29⟩ := Kd.R_slice HO248.out; subst eo29))
     go_ret
     exact ⟨rf, bl⟩

/-! ### postriderref05_letter: function 110 -/
def postriderref05_letter.f (a0 : Int) : Option (Bool) := if a0 ≥ 97 then (if a0 ≤ 122 then (some true) else (if a0 ≥ 65 then (if a0 ≤ 90 then (some true) else (if a0 ≥ 48 then (some (decide (a0 ≤ 57))) else (some false))) else (if a0 ≥ 48 then (some (decide (a0 ≤ 57))) else (some false)))) else (if a0 ≥ 65 then (if a0 ≤ 90 then (some true) else (if a0 ≥ 48 then (some (decide (a0 ≤ 57))) else (some false))) else (if a0 ≥ 48 then (some (decide (a0 ≤ 57))) else (some false)))
theorem postriderref05_letter.calls (a0 : Int) (r : Bool) (w : World) (h : postriderref05_letter.f a0 = some r) :
  Calls Tryz.prog 110 #[.int .u8 a0] w fun e w' => e = .returned (.bool r) ∧ Drawn0 w w' := by
 have H : (if a0 ≥ 97 then (if a0 ≤ 122 then (some true) else (if a0 ≥ 65 then (if a0 ≤ 90 then (some true) else (if a0 ≥ 48 then (some (decide (a0 ≤ 57))) else (some false))) else (if a0 ≥ 48 then (some (decide (a0 ≤ 57))) else (some false)))) else (if a0 ≥ 65 then (if a0 ≤ 90 then (some true) else (if a0 ≥ 48 then (some (decide (a0 ≤ 57))) else (some false))) else (if a0 ≥ 48 then (some (decide (a0 ≤ 57))) else (some false)))) = some r := h
 clear h
 by_cases c2 : a0 ≥ 97
 ·rw [if_pos c2] at H
  have c2b0 : decide (97 ≤ a0) = true := decide_eq_true c2
  clear c2
  by_cases c3 : a0 ≤ 122
  ·rw [if_pos c3] at H
   have c3b0 : decide (a0 ≤ 122) = true := decide_eq_true c3
   clear c3
   obtain rfl := Option.some.inj H
   go_enter Tryz.func110, Tryz.ntmps110
   go_wp2
   go_ret
   exact ⟨by first | rfl | (simp [bneNil]; done) | (simp; done) | (simp [*]; done), dr⟩
  ·rw [if_neg c3] at H
   have c3b0 : decide (a0 ≤ 122) = false := decide_eq_false c3
   clear c3
   by_cases c4 : a0 ≥ 65
   ·rw [if_pos c4] at H
    have c4b0 : decide (65 ≤ a0) = true := decide_eq_true c4
    clear c4
    by_cases c5 : a0 ≤ 90
    ·rw [if_pos c5] at H
     have c5b0 : decide (a0 ≤ 90) = true := decide_eq_true c5
     clear c5
     obtain rfl := Option.some.inj H
     go_enter Tryz.func110, Tryz.ntmps110
     go_wp2
     go_ret
     exact ⟨by first | rfl | (simp [bneNil]; done) | (simp; done) | (simp [*]; done), dr⟩
    ·rw [if_neg c5] at H
     have c5b0 : decide (a0 ≤ 90) = false := decide_eq_false c5
     clear c5
     by_cases c6 : a0 ≥ 48
     ·rw [if_pos c6] at H
      have c6b0 : decide (48 ≤ a0) = true := decide_eq_true c6
      clear c6
      obtain rfl := Option.some.inj H
      go_enter Tryz.func110, Tryz.ntmps110
      go_wp2
      go_ret
      exact ⟨by first | rfl | (simp [bneNil]; done) | (simp; done) | (simp [*]; done), dr⟩
     ·rw [if_neg c6] at H
      have c6b0 : decide (48 ≤ a0) = false := decide_eq_false c6
      clear c6
      obtain rfl := Option.some.inj H
      go_enter Tryz.func110, Tryz.ntmps110
      go_wp2
      go_ret
      exact ⟨by first | rfl | (simp [bneNil]; done) | (simp; done) | (simp [*]; done), dr⟩
   ·rw [if_neg c4] at H
    have c4b0 : decide (65 ≤ a0) = false := decide_eq_false c4
    clear c4
    by_cases c7 : a0 ≥ 48
    ·rw [if_pos c7] at H
     have c7b0 : decide (48 ≤ a0) = true := decide_eq_true c7
     clear c7
     obtain rfl := Option.some.inj H
     go_enter Tryz.func110, Tryz.ntmps110
     go_wp2
     go_ret
     exact ⟨by first | rfl | (simp [bneNil]; done) | (simp; done) | (simp [*]; done), dr⟩
    ·rw [if_neg c7] at H
     have c7b0 : decide (48 ≤ a0) = false := decide_eq_false c7
     clear c7
     obtain rfl := Option.some.inj H
     go_enter Tryz.func110, Tryz.ntmps110
     go_wp2
     go_ret
     exact ⟨by first | rfl | (simp [bneNil]; done) | (simp; done) | (simp [*]; done), dr⟩
 ·rw [if_neg c2] at H
  have c2b0 : decide (97 ≤ a0) = false := decide_eq_false c2
  clear c2
  by_cases c8 : a0 ≥ 65
  ·rw [if_pos c8] at H
   have c8b0 : decide (65 ≤ a0) = true := decide_eq_true c8
   clear c8
   by_cases c9 : a0 ≤ 90
   ·rw [if_pos c9] at H
    have c9b0 : decide (a0 ≤ 90) = true := decide_eq_true c9
    clear c9
    obtain rfl := Option.some.inj H
    go_enter Tryz.func110, Tryz.ntmps110
    go_wp2
    go_ret
    exact ⟨by first | rfl | (simp [bneNil]; done) | (simp; done) | (simp [*]; done), dr⟩
   ·rw [if_neg c9] at H
    have c9b0 : decide (a0 ≤ 90) = false := decide_eq_false c9
    clear c9
    by_cases c10 : a0 ≥ 48
    ·rw [if_pos c10] at H
     have c10b0 : decide (48 ≤ a0) = true := decide_eq_true c10
     clear c10
     obtain rfl := Option.some.inj H
     go_enter Tryz.func110, Tryz.ntmps110
     go_wp2
     go_ret
     exact ⟨by first | rfl | (simp [bneNil]; done) | (simp; done) | (simp [*]; done), dr⟩
    ·rw [if_neg c10] at H
     have c10b0 : decide (48 ≤ a0) = false := decide_eq_false c10
     clear c10
     obtain rfl := Option.some.inj H
     go_enter Tryz.func110, Tryz.ntmps110
     go_wp2
     go_ret
     exact ⟨by first | rfl | (simp [bneNil]; done) | (simp; done) | (simp [*]; done), dr⟩
  ·rw [if_neg c8] at H
   have c8b0 : decide (65 ≤ a0) = false := decide_eq_false c8
   clear c8
   by_cases c11 : a0 ≥ 48
   ·rw [if_pos c11] at H
    have c11b0 : decide (48 ≤ a0) = true := decide_eq_true c11
    clear c11
    obtain rfl := Option.some.inj H
    go_enter Tryz.func110, Tryz.ntmps110
    go_wp2
    go_ret
    exact ⟨by first | rfl | (simp [bneNil]; done) | (simp; done) | (simp [*]; done), dr⟩
   ·rw [if_neg c11] at H
    have c11b0 : decide (48 ≤ a0) = false := decide_eq_false c11
    clear c11
    obtain rfl := Option.some.inj H
    go_enter Tryz.func110, Tryz.ntmps110
    go_wp2
    go_ret
    exact ⟨by first | rfl | (simp [bneNil]; done) | (simp; done) | (simp [*]; done), dr⟩

end Go.Proofs.YtacjnapgdikhbaaGreatDoor.Q
end
section
namespace Go.Proofs.YtacjnapgdikhbaaGreatDoor.Q

/-! ### postriderref05_Domain: function 63 -/
mutual
def postriderref05_Domain.j0 : Nat → ByteArray → Bool → Option (Int)
 | 0, _, _ => none
 | k + 1, x0, x13 => if x13 = true then ((postriderref05_literal.f k x0).bind fun t254 => (if t254 = true then (some 0) else (some 5))) else (postriderref05_Domain.l0 k x0 (decide ((x0.size : Int) > 255)) 0 0)
def postriderref05_Domain.l0 : Nat → ByteArray → Bool → Int → Int → Option (Int)
 | 0, _, _, _, _ => none
 | k + 1, x0, x3, x4, x5 => if x5 ≤ (x0.size : Int) then (if x5 < (x0.size : Int) then (if 0 ≤ x5 then (postriderref05_Domain.j2 k x0 x3 x4 x5 ((bt x0 x5) != 46)) else (none)) else (postriderref05_Domain.j2 k x0 x3 x4 x5 false)) else (if x3 = true then (some 3) else (some 0))
def postriderref05_Domain.j2 : Nat → ByteArray → Bool → Int → Int → Bool → Option (Int)
 | 0, _, _, _, _, _ => none
 | k + 1, x0, x3, x4, x5, x34 => if x34 = true then (if 0 ≤ x5 then (if x5 < (x0.size : Int) then ((postriderref05_letter.f (bt x0 x5)).bind fun t255 => (if t255 = true then (postriderref05_Domain.l0 k x0 x3 x4 (wrap64 (x5 + 1))) else (if (bt x0 x5) = 45 then (postriderref05_Domain.l0 k x0 x3 x4 (wrap64 (x5 + 1))) else (some 5)))) else (none)) else (none)) else (if x5 = x4 then (postriderref05_Domain.j3 k x0 x3 x4 x5 true) else (if 0 ≤ x4 then (if x4 < (x0.size : Int) then (if (bt x0 x4) = 45 then (postriderref05_Domain.j3 k x0 x3 x4 x5 true) else (if 0 ≤ (wrap64 (x5 - 1)) then (if (wrap64 (x5 - 1)) < (x0.size : Int) then (postriderref05_Domain.j3 k x0 x3 x4 x5 ((bt x0 (wrap64 (x5 - 1))) == 45)) else (none)) else (none))) else (none)) else (none)))
def postriderref05_Domain.j3 : Nat → ByteArray → Bool → Int → Int → Bool → Option (Int)
 | 0, _, _, _, _, _ => none
 | k + 1, x0, x3, x4, x5, x61 => if x61 = true then (some 5) else (if (wrap64 (x5 - x4)) > 63 then (postriderref05_Domain.l0 k x0 true (wrap64 (x5 + 1)) (wrap64 (x5 + 1))) else (postriderref05_Domain.l0 k x0 x3 (wrap64 (x5 + 1)) (wrap64 (x5 + 1))))
end
def postriderref05_Domain.f (k : Nat) (a0 : ByteArray) : Option (Int) := if (a0.size : Int) > 0 then (if 0 < (a0.size : Int) then (postriderref05_Domain.j0 k a0 ((bt a0 0) == 91)) else (none)) else (postriderref05_Domain.j0 k a0 false)
theorem postriderref05_Domain.mono_l : ∀ k, (∀ y0 y1, LeO (postriderref05_Domain.j0 k y0 y1) (postriderref05_Domain.j0 (k + 1) y0 y1)) ∧ (∀ y0 y1 y2 y3, LeO (postriderref05_Domain.l0 k y0 y1 y2 y3) (postriderref05_Domain.l0 (k + 1) y0 y1 y2 y3)) ∧ (∀ y0 y1 y2 y3 y4, LeO (postriderref05_Domain.j2 k y0 y1 y2 y3 y4) (postriderref05_Domain.j2 (k + 1) y0 y1 y2 y3 y4)) ∧ (∀ y0 y1 y2 y3 y4, LeO (postriderref05_Domain.j3 k y0 y1 y2 y3 y4) (postriderref05_Domain.j3 (k + 1) y0 y1 y2 y3 y4))
 | 0 => ⟨fun _ _ r h => by simp [postriderref05_Domain.j0] at h, fun _ _ _ _ r h => by simp [postriderref05_Domain.l0] at h, fun _ _ _ _ _ r h => by simp [postriderref05_Domain.j2] at h, fun _ _ _ _ _ r h => by simp [postriderref05_Domain.j3] at h⟩
 | k + 1 => by
  obtain ⟨ih0, ih1, ih2, ih3⟩ := postriderref05_Domain.mono_l k
  refine ⟨?_, ?_, ?_, ?_⟩
  ·intro y0 y1
   unfold postriderref05_Domain.j0
   repeat' first
   | (with_reducible first | exact ih0 _ _ | exact ih1 _ _ _ _ | exact ih2 _ _ _ _ _ | exact ih3 _ _ _ _ _ | exact postriderref05_literal.mono _ _ | exact LeO.refl _ | exact LeO.none _ | refine LeO.ite ?_ ?_ | refine LeO.bind ?_ (fun _ => ?_))
  ·intro y0 y1 y2 y3
   unfold postriderref05_Domain.l0
   repeat' first
   | (with_reducible first | exact ih0 _ _ | exact ih1 _ _ _ _ | exact ih2 _ _ _ _ _ | exact ih3 _ _ _ _ _ | exact postriderref05_literal.mono _ _ | exact LeO.refl _ | exact LeO.none _ | refine LeO.ite ?_ ?_ | refine LeO.bind ?_ (fun _ => ?_))
  ·intro y0 y1 y2 y3 y4
   unfold postriderref05_Domain.j2
   repeat' first
   | (with_reducible first | exact ih0 _ _ | exact ih1 _ _ _ _ | exact ih2 _ _ _ _ _ | exact ih3 _ _ _ _ _ | exact postriderref05_literal.mono _ _ | exact LeO.refl _ | exact LeO.none _ | refine LeO.ite ?_ ?_ | refine LeO.bind ?_ (fun _ => ?_))
  ·intro y0 y1 y2 y3 y4
   unfold postriderref05_Domain.j3
   repeat' first
   | (with_reducible first | exact ih0 _ _ | exact ih1 _ _ _ _ | exact ih2 _ _ _ _ _ | exact ih3 _ _ _ _ _ | exact postriderref05_literal.mono _ _ | exact LeO.refl _ | exact LeO.none _ | refine LeO.ite ?_ ?_ | refine LeO.bind ?_ (fun _ => ?_))
theorem postriderref05_Domain.mono : ∀ a0 k, LeO (postriderref05_Domain.f k a0) (postriderref05_Domain.f (k + 1) a0) := by
 intro a0 k
 obtain ⟨ih0, ih1, ih2, ih3⟩ := postriderref05_Domain.mono_l k
 unfold postriderref05_Domain.f
 repeat' first
   | (with_reducible first | exact ih0 _ _ | exact ih1 _ _ _ _ | exact ih2 _ _ _ _ _ | exact ih3 _ _ _ _ _ | exact postriderref05_literal.mono _ _ | exact LeO.refl _ | exact LeO.none _ | refine LeO.ite ?_ ?_ | refine LeO.bind ?_ (fun _ => ?_))
theorem postriderref05_Domain.calls (k : Nat) (a0 : ByteArray) (r : Int) (w : World) (h : postriderref05_Domain.f k a0 = some r) :
  Calls Tryz.prog 63 #[.string a0] w fun e w' => e = .returned (.int .i64 r) ∧ Below w.heap.size w w' := by
 have HB := Aside0.mk (Below.refl w.heap.size w)
 have H : (if (a0.size : Int) > 0 then (if 0 < (a0.size : Int) then (postriderref05_Domain.j0 k a0 ((bt a0 0) == 91)) else (none)) else (postriderref05_Domain.j0 k a0 false)) = some r := h
 clear h
 have HC2 := Aside0.mk H
 clear H
 go_enter Tryz.func63, Tryz.ntmps63
 go_upto_region 1 with (fail)
 go_cut [13] (fun v13 wc => ∃ (kq : Nat) (x13_1 : Bool), v13 = .bool x13_1 ∧ Aside0 (postriderref05_Domain.j0 kq a0 x13_1 = some r) ∧ Aside0 (kq ≤ k) ∧ Aside0 (Below w.heap.size w wc))
 case first =>
  have H := HC2.out
  clear HC2
  by_cases c3 : (a0.size : Int) > 0
  ·rw [if_pos c3] at H
   have c3b0 : decide (0 < (a0.size : Int)) = true := decide_eq_true c3
   have c3b1 : decide (0 < a0.size) = true := decide_eq_true (by omega)
   clear c3
   (first | rw [c3b0] | (simp only [i64_w, i32_w]; rw [c3b0]) | skip)
   by_cases c4 : 0 < (a0.size : Int)
   rotate_left
   ·rw [if_neg c4] at H
    exact ab H
   rw [if_pos c4] at H
   have c4b0 : decide (0 < (a0.size : Int)) = true := decide_eq_true c4
   have c4b1 : decide (0 < a0.size) = true := decide_eq_true (by omega)
   clear c4
   have H' := Aside0.mk H
   clear H
   have p5 : 0 ≤ (0 : Int) := (by omega)
   have q5 : 0 < a0.size := (by have : (0 : Int) < (a0.size : Int) := od; omega)
   have hx5 : ∀ h : 0 < a0.size, ((a0[0]'h).toNat : Int) = bt a0 0 := bt_at a0 0
   clear p5
   have qi5 : (0 < (a0.size : Int)) = True := eq_true (od)
   replace q5 := eq_true q5
   go_wp2
   go_meet
   case rel => exact ⟨_, (((bt a0 0) == 91)), rs, H', ⟨by first | omega | exact Nat.le_refl _⟩, ⟨bl⟩⟩
  ·rw [if_neg c3] at H
   have c3b0 : decide (0 < (a0.size : Int)) = false := decide_eq_false c3
   have c3b1 : decide (0 < a0.size) = false := decide_eq_false (by omega)
   clear c3
   (first | rw [c3b0] | (simp only [i64_w, i32_w]; rw [c3b0]) | skip)
   have H' := Aside0.mk H
   clear H
   go_wp2
   go_meet
   case rel => exact ⟨_, (false), rs, H', ⟨by first | omega | exact Nat.le_refl _⟩, ⟨bl⟩⟩
 case rest =>
  clear HC2
  try clear p2
  try clear c3
  try clear c3b0
  try clear c3b1
  try clear c4
  try clear c4b0
  try clear c4b1
  try clear p5
  try clear q5
  try clear hx5
  try clear qi5
  try clear p5
  try clear q5
  obtain ⟨kq, x13_1, rfl, HA, HJ1, HB⟩ := hcut
  cases kq with
  | zero => exact absurd HA.out (by simp [postriderref05_Domain.j0])
  | succ kj1 =>
   have H := HA.out
   clear HA
   simp only [postriderref05_Domain.j0] at H
   by_cases c6 : x13_1 = true
   ·subst c6
    replace H : ((postriderref05_literal.f kj1 a0).bind fun t254 => (if t254 = true then (some 0) else (some 5))) = some r := by rw [if_pos rfl] at H; exact H
    obtain ⟨t254, A70, H⟩ := Option.bind_eq_some_iff.mp H
    replace H : (if t254 = true then (some 0) else (some 5)) = some r := H
    have A7 := Aside0.mk A70
    clear A70
    by_cases c8 : t254 = true
    ·subst c8
     replace H : (some 0) = some r := by rw [if_pos rfl] at H; exact H
     obtain rfl := Option.some.inj H
     go_wp2_with (first | ((with_reducible refine gate_callee (f := 109) rfl ?_); refine goesL_ (some 15) rfl rfl Tryz.func109 kf rfl #[.string a0] rfl ml ?_; (with_reducible refine (postriderref05_literal.calls kj1 a0 true _ A7.out).mono ?_); rintro e w9 ⟨rfl, hb⟩; refine ⟨_, rfl, ?_⟩; replace HB := Aside0.mk (below_step bl hb); (try clear hb); (try clear hb2); (try clear hk); (try clear hi)))
     go_ret
     exact ⟨rf, bl⟩
    ·replace c8 := Bool.eq_false_iff.mpr c8
     subst c8
     replace H : (some 5) = some r := by rw [if_neg (show ¬ (false = true) by decide)] at H; exact H
     obtain rfl := Option.some.inj H
     go_wp2_with (first | ((with_reducible refine gate_callee (f := 109) rfl ?_); refine goesL_ (some 15) rfl rfl Tryz.func109 kf rfl #[.string a0] rfl ml ?_; (with_reducible refine (postriderref05_literal.calls kj1 a0 false _ A7.out).mono ?_); rintro e w10 ⟨rfl, hb⟩; refine ⟨_, rfl, ?_⟩; replace HB := Aside0.mk (below_step bl hb); (try clear hb); (try clear hb2); (try clear hk); (try clear hi)))
     go_ret
     exact ⟨rf, bl⟩
   ·replace c6 := Bool.eq_false_iff.mpr c6
    subst c6
    replace H : (postriderref05_Domain.l0 kj1 a0 (decide ((a0.size : Int) > 255)) 0 0) = some r := by rw [if_neg (show ¬ (false = true) by decide)] at H; exact H
    have H' := Aside0.mk H
    clear H
    go_wp2
    go_loopg [3, 4, 5] kj1 (fun kq v3 v4 v5 w' => ∃ (x3_2 : Bool) (x4_2 : Int) (x5_2 : Int), v3 = .bool x3_2 ∧ v4 = .int .i64 x4_2 ∧ v5 = .int .i64 x5_2 ∧ Aside0 (postriderref05_Domain.l0 kq a0 x3_2 x4_2 x5_2 = some r) ∧ Aside0 (kq ≤ kj1) ∧ Aside0 (Below w.heap.size w w'))
    case atStart => exact ⟨(decide ((a0.size : Int) > 255)), (0), (0), rs, rs, rs, H', ⟨Nat.le_refl _⟩, ⟨bl⟩⟩
    case round =>
     clear H'
     try clear c1
     try clear p2
     try clear c3
     try clear c3b0
     try clear c3b1
     try clear c4
     try clear c4b0
     try clear c4b1
     try clear p5
     try clear q5
     try clear hx5
     try clear qi5
     try clear c6
     try clear c8
     try clear c10
     try clear p2
     try clear p5
     try clear q5
     obtain ⟨x3_2, x4_2, x5_2, rfl, rfl, rfl, HA, HK2, HB⟩ := hrel
     cases gk with
     | zero => exact absurd HA.out (by simp [postriderref05_Domain.l0])
     | succ k2 =>
      have H := HA.out
      clear HA
      simp only [postriderref05_Domain.l0] at H
      by_cases c11 : x5_2 ≤ (a0.size : Int)
      ·rw [if_pos c11] at H
       have c11b0 : decide (x5_2 ≤ (a0.size : Int)) = true := decide_eq_true c11
       clear c11
       have HC12 := Aside0.mk H
       clear H
       go_upto_region 10 with (fail)
       go_cut [34] (fun v34 wc => ∃ (kq : Nat) (x34_11 : Bool), v34 = .bool x34_11 ∧ Aside0 (postriderref05_Domain.j2 kq a0 x3_2 x4_2 x5_2 x34_11 = some r) ∧ Aside0 (kq ≤ k2) ∧ Aside0 (Below w.heap.size w wc))
       case first =>
        have H := HC12.out
        clear HC12
        by_cases c13 : x5_2 < (a0.size : Int)
        ·rw [if_pos c13] at H
         have c13b0 : decide (x5_2 < (a0.size : Int)) = true := decide_eq_true c13
         clear c13
         (first | rw [c13b0] | (simp only [i64_w, i32_w]; rw [c13b0]) | skip)
         by_cases c14 : 0 ≤ x5_2
         rotate_left
         ·rw [if_neg c14] at H
          exact ab H
         rw [if_pos c14] at H
         have c14b0 : decide (0 ≤ x5_2) = true := decide_eq_true c14
         clear c14
         have H' := Aside0.mk H
         clear H
         have p15 : 0 ≤ (x5_2 : Int) := od
         have q15 : x5_2 < (a0.size : Int) := od
         have hx15 := bt_at a0 x5_2
         replace p15 := eq_true p15
         replace q15 := eq_true q15
         go_wp2
         go_meet
         case rel => exact ⟨_, (((bt a0 x5_2) != 46)), rs, H', ⟨by have := HJ1.out; have := HK2.out; first | omega | exact Nat.le_refl _⟩, ⟨bl⟩⟩
        ·rw [if_neg c13] at H
         have c13b0 : decide (x5_2 < (a0.size : Int)) = false := decide_eq_false c13
         clear c13
         (first | rw [c13b0] | (simp only [i64_w, i32_w]; rw [c13b0]) | skip)
         have H' := Aside0.mk H
         clear H
         go_wp2
         go_meet
         case rel => exact ⟨_, (false), rs, H', ⟨by have := HJ1.out; have := HK2.out; first | omega | exact Nat.le_refl _⟩, ⟨bl⟩⟩
       case rest =>
        clear HC12
        try clear c1
        try clear p1
        try clear q1
        try clear hx1
        try clear p2
        try clear c3
        try clear c3b0
        try clear c3b1
        try clear c4
        try clear c4b0
        try clear c4b1
        try clear p5
        try clear q5
        try clear hx5
        try clear qi5
        try clear c6
        try clear c8
        try clear c10
        try clear c11
        try clear c11b0
        try clear c13
        try clear c13b0
        try clear c14
        try clear c14b0
        try clear p15
        try clear q15
        try clear hx15
        try clear p15
        try clear p2
        try clear p5
        try clear q15
        try clear q5
        obtain ⟨kq, x34_11, rfl, HA, HJ11, HB⟩ := hcut
        cases kq with
        | zero => exact absurd HA.out (by simp [postriderref05_Domain.j2])
        | succ kj11 =>
         have H := HA.out
         clear HA
         simp only [postriderref05_Domain.j2] at H
         by_cases c16 : x34_11 = true
         ·subst c16
          replace H : (if 0 ≤ x5_2 then (if x5_2 < (a0.size : Int) then ((postriderref05_letter.f (bt a0 x5_2)).bind fun t255 => (if t255 = true then (postriderref05_Domain.l0 kj11 a0 x3_2 x4_2 (wrap64 (x5_2 + 1))) else (if (bt a0 x5_2) = 45 then (postriderref05_Domain.l0 kj11 a0 x3_2 x4_2 (wrap64 (x5_2 + 1))) else (some 5)))) else (none)) else (none)) = some r := by rw [if_pos rfl] at H; exact H
          by_cases c17 : 0 ≤ x5_2
          rotate_left
          ·rw [if_neg c17] at H
           exact ab H
          rw [if_pos c17] at H
          have c17b0 : decide (0 ≤ x5_2) = true := decide_eq_true c17
          clear c17
          by_cases c18 : x5_2 < (a0.size : Int)
          rotate_left
          ·rw [if_neg c18] at H
           exact ab H
          rw [if_pos c18] at H
          have c18b0 : decide (x5_2 < (a0.size : Int)) = true := decide_eq_true c18
          clear c18
          obtain ⟨t255, A200, H⟩ := Option.bind_eq_some_iff.mp H
          replace H : (if t255 = true then (postriderref05_Domain.l0 kj11 a0 x3_2 x4_2 (wrap64 (x5_2 + 1))) else (if (bt a0 x5_2) = 45 then (postriderref05_Domain.l0 kj11 a0 x3_2 x4_2 (wrap64 (x5_2 + 1))) else (some 5))) = some r := H
          have A20 := Aside0.mk A200
          clear A200
          by_cases c21 : t255 = true
          ·subst c21
           replace H : (postriderref05_Domain.l0 kj11 a0 x3_2 x4_2 (wrap64 (x5_2 + 1))) = some r := by rw [if_pos rfl] at H; exact H
           have H' := Aside0.mk H
           clear H
           have p19 : 0 ≤ (x5_2 : Int) := od
           have q19 : x5_2 < (a0.size : Int) := od
           have hx19 := bt_at a0 x5_2
           replace p19 := eq_true p19
           replace q19 := eq_true q19
           go_wp2_with (first | ((with_reducible refine gate_callee (f := 110) rfl ?_); refine goesL_ (some 38) rfl rfl Tryz.func110 kf rfl #[.int .u8 (bt a0 x5_2)] rfl ml ?_; (with_reducible refine (postriderref05_letter.calls (bt a0 x5_2) true _ A20.out).mono ?_); rintro e w' ⟨rfl, ⟨nd, rfl⟩⟩; refine ⟨_, rfl, ?_⟩))
           go_roundg kj11
           case measure => have := HJ1.out; have := HK2.out; have := HJ11.out; omega
           case rel => exact ⟨(x3_2), (x4_2), (wrap64 (x5_2 + 1)), rs, rs, rs, H', ⟨by have := HJ1.out; have := HK2.out; have := HJ11.out; omega⟩, ⟨bl⟩⟩
          ·replace c21 := Bool.eq_false_iff.mpr c21
           subst c21
           replace H : (if (bt a0 x5_2) = 45 then (postriderref05_Domain.l0 kj11 a0 x3_2 x4_2 (wrap64 (x5_2 + 1))) else (some 5)) = some r := by rw [if_neg (show ¬ (false = true) by decide)] at H; exact H
           by_cases c23 : (bt a0 x5_2) = 45
           ·rw [if_pos c23] at H
            have c23b0 : ((bt a0 x5_2) == 45) = true := beq_iff_eq.mpr c23
            have c23b1 : ((bt a0 x5_2) != 45) = false := bne_eq_false_iff_eq.mpr c23
            clear c23
            have H' := Aside0.mk H
            clear H
            have p19 : 0 ≤ (x5_2 : Int) := od
            have q19 : x5_2 < (a0.size : Int) := od
            have hx19 := bt_at a0 x5_2
            replace p19 := eq_true p19
            replace q19 := eq_true q19
            go_wp2_with (first | ((with_reducible refine gate_callee (f := 110) rfl ?_); refine goesL_ (some 38) rfl rfl Tryz.func110 kf rfl #[.int .u8 (bt a0 x5_2)] rfl ml ?_; (with_reducible refine (postriderref05_letter.calls (bt a0 x5_2) false _ A20.out).mono ?_); rintro e w' ⟨rfl, ⟨nd, rfl⟩⟩; refine ⟨_, rfl, ?_⟩; have p22 : 0 ≤ (x5_2 : Int) := od; have q22 : x5_2 < (a0.size : Int) := od; have hx22 := bt_at a0 x5_2; replace p22 := eq_true p22; replace q22 := eq_true q22))
            go_roundg kj11
            case measure => have := HJ1.out; have := HK2.out; have := HJ11.out; omega
            case rel => exact ⟨(x3_2), (x4_2), (wrap64 (x5_2 + 1)), rs, rs, rs, H', ⟨by have := HJ1.out; have := HK2.out; have := HJ11.out; omega⟩, ⟨bl⟩⟩
           ·rw [if_neg c23] at H
            have c23b0 : ((bt a0 x5_2) == 45) = false := beq_eq_false_iff_ne.mpr c23
            have c23b1 : ((bt a0 x5_2) != 45) = true := bne_iff_ne.mpr c23
            obtain rfl := Option.some.inj H
            have p19 : 0 ≤ (x5_2 : Int) := od
            have q19 : x5_2 < (a0.size : Int) := od
            have hx19 := bt_at a0 x5_2
            replace p19 := eq_true p19
            replace q19 := eq_true q19
            go_wp2_with (first | ((with_reducible refine gate_callee (f := 110) rfl ?_); refine goesL_ (some 38) rfl rfl Tryz.func110 kf rfl #[.int .u8 (bt a0 x5_2)] rfl ml ?_; (with_reducible refine (postriderref05_letter.calls (bt a0 x5_2) false _ A20.out).mono ?_); rintro e w' ⟨rfl, ⟨nd, rfl⟩⟩; refine ⟨_, rfl, ?_⟩; have p22 : 0 ≤ (x5_2 : Int) := od; have q22 : x5_2 < (a0.size : Int) := od; have hx22 := bt_at a0 x5_2; replace p22 := eq_true p22; replace q22 := eq_true q22))
            go_ret
            exact ⟨rf, bl⟩
         ·replace c16 := Bool.eq_false_iff.mpr c16
          subst c16
          replace H : (if x5_2 = x4_2 then (postriderref05_Domain.j3 kj11 a0 x3_2 x4_2 x5_2 true) else (if 0 ≤ x4_2 then (if x4_2 < (a0.size : Int) then (if (bt a0 x4_2) = 45 then (postriderref05_Domain.j3 kj11 a0 x3_2 x4_2 x5_2 true) else (if 0 ≤ (wrap64 (x5_2 - 1)) then (if (wrap64 (x5_2 - 1)) < (a0.size : Int) then (postriderref05_Domain.j3 kj11 a0 x3_2 x4_2 x5_2 ((bt a0 (wrap64 (x5_2 - 1))) == 45)) else (none)) else (none))) else (none)) else (none))) = some r := by rw [if_neg (show ¬ (false = true) by decide)] at H; exact H
          have HC24 := Aside0.mk H
          clear H
          go_upto_region 13 with (fail)
          go_cut [61] (fun v61 wc => ∃ (kq : Nat) (x61_23 : Bool), v61 = .bool x61_23 ∧ Aside0 (postriderref05_Domain.j3 kq a0 x3_2 x4_2 x5_2 x61_23 = some r) ∧ Aside0 (kq ≤ kj11) ∧ Aside0 (Below w.heap.size w wc))
          case first =>
           have H := HC24.out
           clear HC24
           by_cases c25 : x5_2 = x4_2
           ·rw [if_pos c25] at H
            have c25b0 : (x5_2 == x4_2) = true := beq_iff_eq.mpr c25
            have c25b1 : (x5_2 != x4_2) = false := bne_eq_false_iff_eq.mpr c25
            clear c25
            (first | rw [c25b0] | (simp only [i64_w, i32_w]; rw [c25b0]) | skip)
            have H' := Aside0.mk H
            clear H
            go_wp2
            go_meet
            case rel => exact ⟨_, (true), rs, H', ⟨by have := HJ1.out; have := HK2.out; have := HJ11.out; first | omega | exact Nat.le_refl _⟩, ⟨bl⟩⟩
           ·rw [if_neg c25] at H
            have c25b0 : (x5_2 == x4_2) = false := beq_eq_false_iff_ne.mpr c25
            have c25b1 : (x5_2 != x4_2) = true := bne_iff_ne.mpr c25
            (first | rw [c25b0] | (simp only [i64_w, i32_w]; rw [c25b0]) | skip)
            by_cases c26 : 0 ≤ x4_2
            rotate_left
            ·rw [if_neg c26] at H
             exact ab H
            rw [if_pos c26] at H
            have c26b0 : decide (0 ≤ x4_2) = true := decide_eq_true c26
            clear c26
            by_cases c27 : x4_2 < (a0.size : Int)
            rotate_left
            ·rw [if_neg c27] at H
             exact ab H
            rw [if_pos c27] at H
            have c27b0 : decide (x4_2 < (a0.size : Int)) = true := decide_eq_true c27
            clear c27
            by_cases c29 : (bt a0 x4_2) = 45
            ·rw [if_pos c29] at H
             have c29b0 : ((bt a0 x4_2) == 45) = true := beq_iff_eq.mpr c29
             have c29b1 : ((bt a0 x4_2) != 45) = false := bne_eq_false_iff_eq.mpr c29
             clear c29
             have H' := Aside0.mk H
             clear H
             have p28 : 0 ≤ (x4_2 : Int) := od
             have q28 : x4_2 < (a0.size : Int) := od
             have hx28 := bt_at a0 x4_2
             replace p28 := eq_true p28
             replace q28 := eq_true q28
             go_wp2
             go_meet
             case rel => exact ⟨_, (true), rs, H', ⟨by have := HJ1.out; have := HK2.out; have := HJ11.out; first | omega | exact Nat.le_refl _⟩, ⟨bl⟩⟩
            ·rw [if_neg c29] at H
             have c29b0 : ((bt a0 x4_2) == 45) = false := beq_eq_false_iff_ne.mpr c29
             have c29b1 : ((bt a0 x4_2) != 45) = true := bne_iff_ne.mpr c29
             obtain ⟨ji30, hji30⟩ : ∃ j_ : Int, (wrap64 (x5_2 - 1)) = j_ := ⟨_, rfl⟩
             replace H : (if 0 ≤ (ji30) then (if (ji30) < (a0.size : Int) then (postriderref05_Domain.j3 kj11 a0 x3_2 x4_2 x5_2 ((bt a0 (ji30)) == 45)) else (none)) else (none)) = some r := by first | (rw [hji30] at H; exact H) | (simp only [hji30] at H ⊢; exact H)
             have hji30w : (IntKind.i64.wrap (x5_2 - 1)) = ji30 := (i64_w _).trans hji30
             by_cases c31 : 0 ≤ (ji30)
             rotate_left
             ·rw [if_neg c31] at H
              exact ab H
             rw [if_pos c31] at H
             have c31b0 : decide (0 ≤ (ji30)) = true := decide_eq_true c31
             clear c31
             by_cases c32 : (ji30) < (a0.size : Int)
             rotate_left
             ·rw [if_neg c32] at H
              exact ab H
             rw [if_pos c32] at H
             have c32b0 : decide ((ji30) < (a0.size : Int)) = true := decide_eq_true c32
             clear c32
             have H' := Aside0.mk H
             clear H
             have p28 : 0 ≤ (x4_2 : Int) := od
             have q28 : x4_2 < (a0.size : Int) := od
             have hx28 := bt_at a0 x4_2
             replace p28 := eq_true p28
             replace q28 := eq_true q28
             have p33 : 0 ≤ ((ji30) : Int) := od
             have q33 : (ji30) < (a0.size : Int) := od
             have hx33 := bt_at a0 (ji30)
             replace p33 := eq_true p33
             replace q33 := eq_true q33
             go_wp2
             go_meet
             case rel => exact ⟨_, (((bt a0 (ji30)) == 45)), (by first | rfl | (simp; done) | (simp only [← hji30] <;> (first | rfl | simp)) | (simp [*]; done)), H', ⟨by have := HJ1.out; have := HK2.out; have := HJ11.out; first | omega | exact Nat.le_refl _⟩, ⟨bl⟩⟩
          case rest =>
           clear HC24
           try clear c1
           try clear p1
           try clear q1
           try clear hx1
           try clear c2
           try clear p2
           try clear q2
           try clear hx2
           try clear c3
           try clear c3b0
           try clear c3b1
           try clear p3
           try clear q3
           try clear hx3
           try clear c4
           try clear c4b0
           try clear c4b1
           try clear p5
           try clear q5
           try clear hx5
           try clear qi5
           try clear c6
           try clear p6
           try clear c8
           try clear c10
           try clear c11
           try clear c11b0
           try clear c13
           try clear c13b0
           try clear c14
           try clear c14b0
           try clear p15
           try clear q15
           try clear hx15
           try clear c16
           try clear c17
           try clear c17b0
           try clear c18
           try clear c18b0
           try clear p19
           try clear q19
           try clear hx19
           try clear c21
           try clear p22
           try clear q22
           try clear hx22
           try clear c23
           try clear c23b0
           try clear c23b1
           try clear c25
           try clear c25b0
           try clear c25b1
           try clear c26
           try clear c26b0
           try clear c27
           try clear c27b0
           try clear p28
           try clear q28
           try clear hx28
           try clear c29
           try clear c29b0
           try clear c29b1
           try clear c31
           try clear c31b0
           try clear c32
           try clear c32b0
           try clear p33
           try clear q33
           try clear hx33
           try clear p1
           try clear p15
           try clear p19
           try clear p2
           try clear p22
           try clear p28
           try clear p33
           try clear p5
           try clear q1
           try clear q15
           try clear q19
           try clear q22
           try clear q28
           try clear q33
           try clear q5
           obtain ⟨kq, x61_23, rfl, HA, HJ23, HB⟩ := hcut
           cases kq with
           | zero => exact absurd HA.out (by simp [postriderref05_Domain.j3])
           | succ kj23 =>
            have H := HA.out
            clear HA
            simp only [postriderref05_Domain.j3] at H
            by_cases c34 : x61_23 = true
            ·subst c34
             replace H : (some 5) = some r := by rw [if_pos rfl] at H; exact H
             obtain rfl := Option.some.inj H
             go_wp2
             go_ret
             exact ⟨rf, bl⟩
            ·replace c34 := Bool.eq_false_iff.mpr c34
             subst c34
             replace H : (if (wrap64 (x5_2 - x4_2)) > 63 then (postriderref05_Domain.l0 kj23 a0 true (wrap64 (x5_2 + 1)) (wrap64 (x5_2 + 1))) else (postriderref05_Domain.l0 kj23 a0 x3_2 (wrap64 (x5_2 + 1)) (wrap64 (x5_2 + 1)))) = some r := by rw [if_neg (show ¬ (false = true) by decide)] at H; exact H
             by_cases c35 : (wrap64 (x5_2 - x4_2)) > 63
             ·rw [if_pos c35] at H
              have c35b0 : decide (63 < (wrap64 (x5_2 - x4_2))) = true := decide_eq_true c35
              clear c35
              have H' := Aside0.mk H
              clear H
              go_wp2
              go_roundg kj23
              case measure => have := HJ1.out; have := HK2.out; have := HJ11.out; have := HJ23.out; omega
              case rel => exact ⟨(true), (wrap64 (x5_2 + 1)), (wrap64 (x5_2 + 1)), rs, rs, rs, H', ⟨by have := HJ1.out; have := HK2.out; have := HJ11.out; have := HJ23.out; omega⟩, ⟨bl⟩⟩
             ·rw [if_neg c35] at H
              have c35b0 : decide (63 < (wrap64 (x5_2 - x4_2))) = false := decide_eq_false c35
              clear c35
              have H' := Aside0.mk H
              clear H
              go_wp2
              go_roundg kj23
              case measure => have := HJ1.out; have := HK2.out; have := HJ11.out; have := HJ23.out; omega
              case rel => exact ⟨(x3_2), (wrap64 (x5_2 + 1)), (wrap64 (x5_2 + 1)), rs, rs, rs, H', ⟨by have := HJ1.out; have := HK2.out; have := HJ11.out; have := HJ23.out; omega⟩, ⟨bl⟩⟩
      ·rw [if_neg c11] at H
       have c11b0 : decide (x5_2 ≤ (a0.size : Int)) = false := decide_eq_false c11
       clear c11
       by_cases c36 : x3_2 = true
       ·subst c36
        replace H : (some 3) = some r := by rw [if_pos rfl] at H; exact H
        obtain rfl := Option.some.inj H
        go_wp2
        go_ret
        exact ⟨rf, bl⟩
       ·replace c36 := Bool.eq_false_iff.mpr c36
        subst c36
        replace H : (some 0) = some r := by rw [if_neg (show ¬ (false = true) by decide)] at H; exact H
        obtain rfl := Option.some.inj H
        go_wp2
        go_ret
        exact ⟨rf, bl⟩

/-! ### postriderref04_plain: function 136 -/
def postriderref04_plain.f (a0 : Int) : Option (Bool) := if a0 ≥ 32 then (some (decide (a0 ≤ 126))) else (some false)
theorem postriderref04_plain.calls (a0 : Int) (r : Bool) (w : World) (h : postriderref04_plain.f a0 = some r) :
  Calls Tryz.prog 136 #[.int .u8 a0] w fun e w' => e = .returned (.bool r) ∧ Drawn0 w w' := by
 have H : (if a0 ≥ 32 then (some (decide (a0 ≤ 126))) else (some false)) = some r := h
 clear h
 by_cases c2 : a0 ≥ 32
 ·rw [if_pos c2] at H
  have c2b0 : decide (32 ≤ a0) = true := decide_eq_true c2
  clear c2
  obtain rfl := Option.some.inj H
  go_enter Tryz.func136, Tryz.ntmps136
  go_wp2
  go_ret
  exact ⟨by first | rfl | (simp [bneNil]; done) | (simp; done) | (simp [*]; done), dr⟩
 ·rw [if_neg c2] at H
  have c2b0 : decide (32 ≤ a0) = false := decide_eq_false c2
  clear c2
  obtain rfl := Option.some.inj H
  go_enter Tryz.func136, Tryz.ntmps136
  go_wp2
  go_ret
  exact ⟨by first | rfl | (simp [bneNil]; done) | (simp; done) | (simp [*]; done), dr⟩

end Go.Proofs.YtacjnapgdikhbaaGreatDoor.Q
end
section
namespace Go.Proofs.YtacjnapgdikhbaaGreatDoor.Q

/-! ### postriderref04_Quoted: function 82 -/
mutual
def postriderref04_Quoted.j0 : Nat → ByteArray → Bool → Option (ByteArray × Int × Int)
 | 0, _, _ => none
 | k + 1, x0, x15 => if x15 = true then (some ((⟨#[]⟩ : ByteArray), 0, 5)) else (postriderref04_Quoted.l0 k x0 (⟨#[]⟩ : ByteArray) 1)
def postriderref04_Quoted.l0 : Nat → ByteArray → ByteArray → Int → Option (ByteArray × Int × Int)
 | 0, _, _, _ => none
 | k + 1, x0, x5, x6 => if x6 < (x0.size : Int) then (if 0 ≤ x6 then (if (bt x0 x6) = 34 then (some (x5, wrap64 (x6 + 1), 0)) else (if (bt x0 x6) = 92 then (if (wrap64 (x6 + 1)) ≥ (x0.size : Int) then (some ((⟨#[]⟩ : ByteArray), 0, 4)) else (if 0 ≤ (wrap64 (x6 + 1)) then (if (wrap64 (x6 + 1)) < (x0.size : Int) then ((postriderref04_plain.f (bt x0 (wrap64 (x6 + 1)))).bind fun t256 => (if t256 = true then (if (wrap64 (x6 + 1)) ≤ (wrap64 ((wrap64 (x6 + 1)) + 1)) then (if (wrap64 ((wrap64 (x6 + 1)) + 1)) ≤ (x0.size : Int) then (if x5.size + (x0.extract ((wrap64 (x6 + 1)) : Int).toNat ((wrap64 ((wrap64 (x6 + 1)) + 1)) : Int).toNat).size ≤ 9223372036854775807 then (postriderref04_Quoted.l0 k x0 (x5 ++ (x0.extract ((wrap64 (x6 + 1)) : Int).toNat ((wrap64 ((wrap64 (x6 + 1)) + 1)) : Int).toNat)) (wrap64 ((wrap64 (x6 + 1)) + 1))) else (none)) else (none)) else (none)) else (some ((⟨#[]⟩ : ByteArray), 0, 5)))) else (none)) else (none))) else ((postriderref04_plain.f (bt x0 x6)).bind fun t257 => (if t257 = true then (if x6 ≤ (wrap64 (x6 + 1)) then (if (wrap64 (x6 + 1)) ≤ (x0.size : Int) then (if x5.size + (x0.extract (x6 : Int).toNat ((wrap64 (x6 + 1)) : Int).toNat).size ≤ 9223372036854775807 then (postriderref04_Quoted.l0 k x0 (x5 ++ (x0.extract (x6 : Int).toNat ((wrap64 (x6 + 1)) : Int).toNat)) (wrap64 (x6 + 1))) else (none)) else (none)) else (none)) else (some ((⟨#[]⟩ : ByteArray), 0, 5)))))) else (none)) else (some ((⟨#[]⟩ : ByteArray), 0, 4))
end
def postriderref04_Quoted.f (k : Nat) (a0 : ByteArray) : Option (ByteArray × Int × Int) := if (a0.size : Int) = 0 then (postriderref04_Quoted.j0 k a0 true) else (if 0 < (a0.size : Int) then (postriderref04_Quoted.j0 k a0 ((bt a0 0) != 34)) else (none))
theorem postriderref04_Quoted.mono_l : ∀ k, (∀ y0 y1, LeO (postriderref04_Quoted.j0 k y0 y1) (postriderref04_Quoted.j0 (k + 1) y0 y1)) ∧ (∀ y0 y1 y2, LeO (postriderref04_Quoted.l0 k y0 y1 y2) (postriderref04_Quoted.l0 (k + 1) y0 y1 y2))
 | 0 => ⟨fun _ _ r h => by simp [postriderref04_Quoted.j0] at h, fun _ _ _ r h => by simp [postriderref04_Quoted.l0] at h⟩
 | k + 1 => by
  obtain ⟨ih0, ih1⟩ := postriderref04_Quoted.mono_l k
  refine ⟨?_, ?_⟩
  ·intro y0 y1
   unfold postriderref04_Quoted.j0
   repeat' first
   | (with_reducible first | exact ih0 _ _ | exact ih1 _ _ _ | exact LeO.refl _ | exact LeO.none _ | refine LeO.ite ?_ ?_ | refine LeO.bind ?_ (fun _ => ?_))
  ·intro y0 y1 y2
   unfold postriderref04_Quoted.l0
   repeat' first
   | (with_reducible first | exact ih0 _ _ | exact ih1 _ _ _ | exact LeO.refl _ | exact LeO.none _ | refine LeO.ite ?_ ?_ | refine LeO.bind ?_ (fun _ => ?_))
theorem postriderref04_Quoted.mono : ∀ a0 k, LeO (postriderref04_Quoted.f k a0) (postriderref04_Quoted.f (k + 1) a0) := by
 intro a0 k
 obtain ⟨ih0, ih1⟩ := postriderref04_Quoted.mono_l k
 unfold postriderref04_Quoted.f
 repeat' first
   | (with_reducible first | exact ih0 _ _ | exact ih1 _ _ _ | exact LeO.refl _ | exact LeO.none _ | refine LeO.ite ?_ ?_ | refine LeO.bind ?_ (fun _ => ?_))
theorem postriderref04_Quoted.calls (k : Nat) (a0 : ByteArray) (r1 : ByteArray) (r2 : Int) (r3 : Int) (w : World) (h : postriderref04_Quoted.f k a0 = some (r1, r2, r3)) :
  Calls Tryz.prog 82 #[.string a0] w fun e w' => e = .returned (.tuple #[.string r1, .int .i64 r2, .int .i64 r3]) ∧ Drawn0 w w' := by
 have H : (if (a0.size : Int) = 0 then (postriderref04_Quoted.j0 k a0 true) else (if 0 < (a0.size : Int) then (postriderref04_Quoted.j0 k a0 ((bt a0 0) != 34)) else (none))) = some (r1, r2, r3) := h
 clear h
 have HC2 := Aside0.mk H
 clear H
 go_enter Tryz.func82, Tryz.ntmps82
 go_upto_region 1 with (fail)
 go_cut [15] (fun v15 wc => ∃ (kq : Nat) (x15_1 : Bool), v15 = .bool x15_1 ∧ Aside0 (postriderref04_Quoted.j0 kq a0 x15_1 = some (r1, r2, r3)) ∧ Aside0 (kq ≤ k) ∧ Drawn0 w wc)
 case first =>
  have H := HC2.out
  clear HC2
  by_cases c3 : (a0.size : Int) = 0
  ·rw [if_pos c3] at H
   have c3b0 : ((a0.size : Int) == 0) = true := beq_iff_eq.mpr c3
   have c3b1 : ((a0.size : Int) != 0) = false := bne_eq_false_iff_eq.mpr c3
   clear c3
   (first | rw [c3b0] | (simp only [i64_w, i32_w]; rw [c3b0]) | skip)
   have H' := Aside0.mk H
   clear H
   go_wp2
   go_meet
   case rel => exact ⟨_, (true), rs, H', ⟨by first | omega | exact Nat.le_refl _⟩, dr⟩
  ·rw [if_neg c3] at H
   have c3b0 : ((a0.size : Int) == 0) = false := beq_eq_false_iff_ne.mpr c3
   have c3b1 : ((a0.size : Int) != 0) = true := bne_iff_ne.mpr c3
   (first | rw [c3b0] | (simp only [i64_w, i32_w]; rw [c3b0]) | skip)
   by_cases c4 : 0 < (a0.size : Int)
   rotate_left
   ·rw [if_neg c4] at H
    exact ab H
   rw [if_pos c4] at H
   have c4b0 : decide (0 < (a0.size : Int)) = true := decide_eq_true c4
   have c4b1 : decide (0 < a0.size) = true := decide_eq_true (by omega)
   clear c4
   have H' := Aside0.mk H
   clear H
   have p5 : 0 ≤ (0 : Int) := (by omega)
   have q5 : 0 < a0.size := (by have : (0 : Int) < (a0.size : Int) := od; omega)
   have hx5 : ∀ h : 0 < a0.size, ((a0[0]'h).toNat : Int) = bt a0 0 := bt_at a0 0
   clear p5
   have qi5 : (0 < (a0.size : Int)) = True := eq_true (od)
   replace q5 := eq_true q5
   go_wp2
   go_meet
   case rel => exact ⟨_, (((bt a0 0) != 34)), rs, H', ⟨by first | omega | exact Nat.le_refl _⟩, dr⟩
 case rest =>
  clear HC2
  try clear p2
  try clear c3
  try clear c3b0
  try clear c3b1
  try clear c4
  try clear c4b0
  try clear c4b1
  try clear p5
  try clear q5
  try clear hx5
  try clear qi5
  try clear p5
  try clear q5
  obtain ⟨kq, x15_1, rfl, HA, HJ1, ⟨mc1, rfl⟩⟩ := hcut
  cases kq with
  | zero => exact absurd HA.out (by simp [postriderref04_Quoted.j0])
  | succ kj1 =>
   have H := HA.out
   clear HA
   simp only [postriderref04_Quoted.j0] at H
   by_cases c6 : x15_1 = true
   ·subst c6
    replace H : (some ((⟨#[]⟩ : ByteArray), 0, 5)) = some (r1, r2, r3) := by rw [if_pos rfl] at H; exact H
    simp only [Option.some.injEq, Prod.mk.injEq] at H
    obtain ⟨rfl, rfl, rfl⟩ := H
    go_wp2
    go_ret3
    exact ⟨by first | rfl | (simp [bneNil]; done) | (simp; done) | (simp [*]; done), dr⟩
   ·replace c6 := Bool.eq_false_iff.mpr c6
    subst c6
    replace H : (postriderref04_Quoted.l0 kj1 a0 (⟨#[]⟩ : ByteArray) 1) = some (r1, r2, r3) := by rw [if_neg (show ¬ (false = true) by decide)] at H; exact H
    have H' := Aside0.mk H
    clear H
    go_wp2
    go_loopg [5, 6] kj1 (fun kq v5 v6 w' => ∃ (x5_2 : ByteArray) (x6_2 : Int), v5 = .string x5_2 ∧ v6 = .int .i64 x6_2 ∧ Aside0 (postriderref04_Quoted.l0 kq a0 x5_2 x6_2 = some (r1, r2, r3)) ∧ Aside0 (kq ≤ kj1) ∧ Drawn0 w w')
    case atStart => exact ⟨((⟨#[]⟩ : ByteArray)), (1), rs, rs, H', ⟨Nat.le_refl _⟩, dr⟩
    case round =>
     clear H'
     try clear c1
     try clear p2
     try clear c3
     try clear c3b0
     try clear c3b1
     try clear c4
     try clear c4b0
     try clear c4b1
     try clear p5
     try clear q5
     try clear hx5
     try clear qi5
     try clear c6
     try clear p2
     try clear p5
     try clear q5
     obtain ⟨x5_2, x6_2, rfl, rfl, HA, HK2, ⟨m2, rfl⟩⟩ := hrel
     cases gk with
     | zero => exact absurd HA.out (by simp [postriderref04_Quoted.l0])
     | succ k2 =>
      have H := HA.out
      clear HA
      simp only [postriderref04_Quoted.l0] at H
      by_cases c7 : x6_2 < (a0.size : Int)
      ·rw [if_pos c7] at H
       have c7b0 : decide (x6_2 < (a0.size : Int)) = true := decide_eq_true c7
       clear c7
       by_cases c8 : 0 ≤ x6_2
       rotate_left
       ·rw [if_neg c8] at H
        exact ab H
       rw [if_pos c8] at H
       have c8b0 : decide (0 ≤ x6_2) = true := decide_eq_true c8
       clear c8
       by_cases c10 : (bt a0 x6_2) = 34
       ·rw [if_pos c10] at H
        have c10b0 : ((bt a0 x6_2) == 34) = true := beq_iff_eq.mpr c10
        have c10b1 : ((bt a0 x6_2) != 34) = false := bne_eq_false_iff_eq.mpr c10
        clear c10
        simp only [Option.some.injEq, Prod.mk.injEq] at H
        obtain ⟨rfl, rfl, rfl⟩ := H
        have p9 : 0 ≤ (x6_2 : Int) := od
        have q9 : x6_2 < (a0.size : Int) := od
        have hx9 := bt_at a0 x6_2
        replace p9 := eq_true p9
        replace q9 := eq_true q9
        go_wp2
        go_ret3
        exact ⟨by first | rfl | (simp [bneNil]; done) | (simp; done) | (simp [*]; done), dr⟩
       ·rw [if_neg c10] at H
        have c10b0 : ((bt a0 x6_2) == 34) = false := beq_eq_false_iff_ne.mpr c10
        have c10b1 : ((bt a0 x6_2) != 34) = true := bne_iff_ne.mpr c10
        by_cases c11 : (bt a0 x6_2) = 92
        ·rw [if_pos c11] at H
         have c11b0 : ((bt a0 x6_2) == 92) = true := beq_iff_eq.mpr c11
         have c11b1 : ((bt a0 x6_2) != 92) = false := bne_eq_false_iff_eq.mpr c11
         clear c11
         by_cases c12 : (wrap64 (x6_2 + 1)) ≥ (a0.size : Int)
         ·rw [if_pos c12] at H
          have c12b0 : decide ((a0.size : Int) ≤ (wrap64 (x6_2 + 1))) = true := decide_eq_true c12
          clear c12
          simp only [Option.some.injEq, Prod.mk.injEq] at H
          obtain ⟨rfl, rfl, rfl⟩ := H
          have p9 : 0 ≤ (x6_2 : Int) := od
          have q9 : x6_2 < (a0.size : Int) := od
          have hx9 := bt_at a0 x6_2
          replace p9 := eq_true p9
          replace q9 := eq_true q9
          go_wp2
          go_ret3
          exact ⟨by first | rfl | (simp [bneNil]; done) | (simp; done) | (simp [*]; done), dr⟩
         ·rw [if_neg c12] at H
          have c12b0 : decide ((a0.size : Int) ≤ (wrap64 (x6_2 + 1))) = false := decide_eq_false c12
          clear c12
          obtain ⟨ji13, hji13⟩ : ∃ j_ : Int, (wrap64 (x6_2 + 1)) = j_ := ⟨_, rfl⟩
          replace H : (if 0 ≤ (ji13) then (if (ji13) < (a0.size : Int) then ((postriderref04_plain.f (bt a0 (ji13))).bind fun t256 => (if t256 = true then (if (ji13) ≤ (wrap64 ((ji13) + 1)) then (if (wrap64 ((ji13) + 1)) ≤ (a0.size : Int) then (if x5_2.size + (a0.extract ((ji13) : Int).toNat ((wrap64 ((ji13) + 1)) : Int).toNat).size ≤ 9223372036854775807 then (postriderref04_Quoted.l0 k2 a0 (x5_2 ++ (a0.extract ((ji13) : Int).toNat ((wrap64 ((ji13) + 1)) : Int).toNat)) (wrap64 ((ji13) + 1))) else (none)) else (none)) else (none)) else (some ((⟨#[]⟩ : ByteArray), 0, 5)))) else (none)) else (none)) = some (r1, r2, r3) := by first | (rw [hji13] at H; exact H) | (simp only [hji13] at H ⊢; exact H)
          (try rw [hji13] at c12b0)
          have hji13w : (IntKind.i64.wrap (x6_2 + 1)) = ji13 := (i64_w _).trans hji13
          by_cases c14 : 0 ≤ (ji13)
          rotate_left
          ·rw [if_neg c14] at H
           exact ab H
          rw [if_pos c14] at H
          have c14b0 : decide (0 ≤ (ji13)) = true := decide_eq_true c14
          clear c14
          by_cases c15 : (ji13) < (a0.size : Int)
          rotate_left
          ·rw [if_neg c15] at H
           exact ab H
          rw [if_pos c15] at H
          have c15b0 : decide ((ji13) < (a0.size : Int)) = true := decide_eq_true c15
          clear c15
          obtain ⟨t256, A170, H⟩ := Option.bind_eq_some_iff.mp H
          replace H : (if t256 = true then (if (ji13) ≤ (wrap64 ((ji13) + 1)) then (if (wrap64 ((ji13) + 1)) ≤ (a0.size : Int) then (if x5_2.size + (a0.extract ((ji13) : Int).toNat ((wrap64 ((ji13) + 1)) : Int).toNat).size ≤ 9223372036854775807 then (postriderref04_Quoted.l0 k2 a0 (x5_2 ++ (a0.extract ((ji13) : Int).toNat ((wrap64 ((ji13) + 1)) : Int).toNat)) (wrap64 ((ji13) + 1))) else (none)) else (none)) else (none)) else (some ((⟨#[]⟩ : ByteArray), 0, 5))) = some (r1, r2, r3) := H
          have A17 := Aside0.mk A170
          clear A170
          by_cases c18 : t256 = true
          ·subst c18
           replace H : (if (ji13) ≤ (wrap64 ((ji13) + 1)) then (if (wrap64 ((ji13) + 1)) ≤ (a0.size : Int) then (if x5_2.size + (a0.extract ((ji13) : Int).toNat ((wrap64 ((ji13) + 1)) : Int).toNat).size ≤ 9223372036854775807 then (postriderref04_Quoted.l0 k2 a0 (x5_2 ++ (a0.extract ((ji13) : Int).toNat ((wrap64 ((ji13) + 1)) : Int).toNat)) (wrap64 ((ji13) + 1))) else (none)) else (none)) else (none)) = some (r1, r2, r3) := by rw [if_pos rfl] at H; exact H
           have c19b0 := eq_true (od : 0 ≤ (ji13))
           by_cases c20 : (ji13) ≤ (wrap64 ((ji13) + 1))
           rotate_left
           ·rw [if_neg c20] at H
            exact ab H
           rw [if_pos c20] at H
           have c20b0 := eq_true c20
           have c20b1 : decide ((ji13) ≤ (wrap64 ((ji13) + 1))) = true := decide_eq_true c20
           by_cases c21 : (wrap64 ((ji13) + 1)) ≤ (a0.size : Int)
           rotate_left
           ·rw [if_neg c21] at H
            exact ab H
           rw [if_pos c21] at H
           have c21b0 := eq_true c21
           have c21b1 : decide ((wrap64 ((ji13) + 1)) ≤ (a0.size : Int)) = true := decide_eq_true c21
           by_cases c22 : x5_2.size + (a0.extract ((ji13) : Int).toNat ((wrap64 ((ji13) + 1)) : Int).toNat).size ≤ 9223372036854775807
           rotate_left
           ·rw [if_neg c22] at H
            exact ab H
           rw [if_pos c22] at H
           have c22b0 := eq_true c22
           have c22b1 : decide (x5_2.size + (a0.extract ((ji13) : Int).toNat ((wrap64 ((ji13) + 1)) : Int).toNat).size ≤ 9223372036854775807) = true := decide_eq_true c22
           try have c22b2 : (9223372036854775807 < x5_2.size + (a0.extract ((ji13) : Int).toNat ((wrap64 ((ji13) + 1)) : Int).toNat).size) = False := eq_false (Nat.not_lt.2 c22)
           have H' := Aside0.mk H
           clear H
           have p9 : 0 ≤ (x6_2 : Int) := od
           have q9 : x6_2 < (a0.size : Int) := od
           have hx9 := bt_at a0 x6_2
           replace p9 := eq_true p9
           replace q9 := eq_true q9
           have p16 : 0 ≤ ((ji13) : Int) := od
           have q16 : (ji13) < (a0.size : Int) := od
           have hx16 := bt_at a0 (ji13)
           replace p16 := eq_true p16
           replace q16 := eq_true q16
           go_wp2_with (first | ((with_reducible refine gate_callee (f := 136) rfl ?_); refine goesL_ (some 39) rfl rfl Tryz.func136 kf rfl #[.int .u8 (bt a0 (ji13))] rfl (by (try simp only [List.map_toArray, List.map_cons, List.map_nil]); first | done | (simp only [hji13]; rfl) | rfl | (simp only [List.length_drop, List.length_take]; rfl)) ?_; (with_reducible refine (postriderref04_plain.calls (bt a0 (ji13)) true _ A17.out).mono ?_); rintro e w' ⟨rfl, ⟨nd, rfl⟩⟩; refine ⟨_, rfl, ?_⟩))
           go_roundg k2
           case measure => have := HJ1.out; have := HK2.out; omega
           case rel => exact ⟨(x5_2 ++ (a0.extract ((ji13) : Int).toNat ((wrap64 ((ji13) + 1)) : Int).toNat)), (wrap64 ((ji13) + 1)), (by first | rfl | (simp; done) | (simp only [← hji13] <;> (first | rfl | simp)) | (simp [*]; done)), (by first | rfl | (simp; done) | (simp only [← hji13] <;> (first | rfl | simp)) | (simp [*]; done)), H', ⟨by have := HJ1.out; have := HK2.out; omega⟩, dr⟩
          ·replace c18 := Bool.eq_false_iff.mpr c18
           subst c18
           replace H : (some ((⟨#[]⟩ : ByteArray), 0, 5)) = some (r1, r2, r3) := by rw [if_neg (show ¬ (false = true) by decide)] at H; exact H
           simp only [Option.some.injEq, Prod.mk.injEq] at H
           obtain ⟨rfl, rfl, rfl⟩ := H
           have p9 : 0 ≤ (x6_2 : Int) := od
           have q9 : x6_2 < (a0.size : Int) := od
           have hx9 := bt_at a0 x6_2
           replace p9 := eq_true p9
           replace q9 := eq_true q9
           have p16 : 0 ≤ ((ji13) : Int) := od
           have q16 : (ji13) < (a0.size : Int) := od
           have hx16 := bt_at a0 (ji13)
           replace p16 := eq_true p16
           replace q16 := eq_true q16
           go_wp2_with (first | ((with_reducible refine gate_callee (f := 136) rfl ?_); refine goesL_ (some 39) rfl rfl Tryz.func136 kf rfl #[.int .u8 (bt a0 (ji13))] rfl (by (try simp only [List.map_toArray, List.map_cons, List.map_nil]); first | done | (simp only [hji13]; rfl) | rfl | (simp only [List.length_drop, List.length_take]; rfl)) ?_; (with_reducible refine (postriderref04_plain.calls (bt a0 (ji13)) false _ A17.out).mono ?_); rintro e w' ⟨rfl, ⟨nd, rfl⟩⟩; refine ⟨_, rfl, ?_⟩))
           go_ret3
           exact ⟨by first | rfl | (simp [bneNil]; done) | (simp; done) | (simp only [← hji13] <;> (first | rfl | simp)) | (simp [*]; done), dr⟩
        ·rw [if_neg c11] at H
         have c11b0 : ((bt a0 x6_2) == 92) = false := beq_eq_false_iff_ne.mpr c11
         have c11b1 : ((bt a0 x6_2) != 92) = true := bne_iff_ne.mpr c11
         obtain ⟨t257, A240, H⟩ := Option.bind_eq_some_iff.mp H
         replace H : (if t257 = true then (if x6_2 ≤ (wrap64 (x6_2 + 1)) then (if (wrap64 (x6_2 + 1)) ≤ (a0.size : Int) then (if x5_2.size + (a0.extract (x6_2 : Int).toNat ((wrap64 (x6_2 + 1)) : Int).toNat).size ≤ 9223372036854775807 then (postriderref04_Quoted.l0 k2 a0 (x5_2 ++ (a0.extract (x6_2 : Int).toNat ((wrap64 (x6_2 + 1)) : Int).toNat)) (wrap64 (x6_2 + 1))) else (none)) else (none)) else (none)) else (some ((⟨#[]⟩ : ByteArray), 0, 5))) = some (r1, r2, r3) := H
         have A24 := Aside0.mk A240
         clear A240
         by_cases c25 : t257 = true
         ·subst c25
          replace H : (if x6_2 ≤ (wrap64 (x6_2 + 1)) then (if (wrap64 (x6_2 + 1)) ≤ (a0.size : Int) then (if x5_2.size + (a0.extract (x6_2 : Int).toNat ((wrap64 (x6_2 + 1)) : Int).toNat).size ≤ 9223372036854775807 then (postriderref04_Quoted.l0 k2 a0 (x5_2 ++ (a0.extract (x6_2 : Int).toNat ((wrap64 (x6_2 + 1)) : Int).toNat)) (wrap64 (x6_2 + 1))) else (none)) else (none)) else (none)) = some (r1, r2, r3) := by rw [if_pos rfl] at H; exact H
          have c26b0 := eq_true (od : 0 ≤ x6_2)
          by_cases c27 : x6_2 ≤ (wrap64 (x6_2 + 1))
          rotate_left
          ·rw [if_neg c27] at H
           exact ab H
          rw [if_pos c27] at H
          have c27b0 := eq_true c27
          have c27b1 : decide (x6_2 ≤ (wrap64 (x6_2 + 1))) = true := decide_eq_true c27
          by_cases c28 : (wrap64 (x6_2 + 1)) ≤ (a0.size : Int)
          rotate_left
          ·rw [if_neg c28] at H
           exact ab H
          rw [if_pos c28] at H
          have c28b0 := eq_true c28
          have c28b1 : decide ((wrap64 (x6_2 + 1)) ≤ (a0.size : Int)) = true := decide_eq_true c28
          by_cases c29 : x5_2.size + (a0.extract (x6_2 : Int).toNat ((wrap64 (x6_2 + 1)) : Int).toNat).size ≤ 9223372036854775807
          rotate_left
          ·rw [if_neg c29] at H
           exact ab H
          rw [if_pos c29] at H
          have c29b0 := eq_true c29
          have c29b1 : decide (x5_2.size + (a0.extract (x6_2 : Int).toNat ((wrap64 (x6_2 + 1)) : Int).toNat).size ≤ 9223372036854775807) = true := decide_eq_true c29
          try have c29b2 : (9223372036854775807 < x5_2.size + (a0.extract (x6_2 : Int).toNat ((wrap64 (x6_2 + 1)) : Int).toNat).size) = False := eq_false (Nat.not_lt.2 c29)
          have H' := Aside0.mk H
          clear H
          have p9 : 0 ≤ (x6_2 : Int) := od
          have q9 : x6_2 < (a0.size : Int) := od
          have hx9 := bt_at a0 x6_2
          replace p9 := eq_true p9
          replace q9 := eq_true q9
          have p23 : 0 ≤ (x6_2 : Int) := od
          have q23 : x6_2 < (a0.size : Int) := od
          have hx23 := bt_at a0 x6_2
          replace p23 := eq_true p23
          replace q23 := eq_true q23
          go_wp2_with (first | ((with_reducible refine gate_callee (f := 136) rfl ?_); refine goesL_ (some 39) rfl rfl Tryz.func136 kf rfl #[.int .u8 (bt a0 x6_2)] rfl ml ?_; (with_reducible refine (postriderref04_plain.calls (bt a0 x6_2) true _ A24.out).mono ?_); rintro e w' ⟨rfl, ⟨nd, rfl⟩⟩; refine ⟨_, rfl, ?_⟩))
          go_roundg k2
          case measure => have := HJ1.out; have := HK2.out; omega
          case rel => exact ⟨(x5_2 ++ (a0.extract (x6_2 : Int).toNat ((wrap64 (x6_2 + 1)) : Int).toNat)), (wrap64 (x6_2 + 1)), rs, rs, H', ⟨by have := HJ1.out; have := HK2.out; omega⟩, dr⟩
         ·replace c25 := Bool.eq_false_iff.mpr c25
          subst c25
          replace H : (some ((⟨#[]⟩ : ByteArray), 0, 5)) = some (r1, r2, r3) := by rw [if_neg (show ¬ (false = true) by decide)] at H; exact H
          simp only [Option.some.injEq, Prod.mk.injEq] at H
          obtain ⟨rfl, rfl, rfl⟩ := H
          have p9 : 0 ≤ (x6_2 : Int) := od
          have q9 : x6_2 < (a0.size : Int) := od
          have hx9 := bt_at a0 x6_2
          replace p9 := eq_true p9
          replace q9 := eq_true q9
          have p23 : 0 ≤ (x6_2 : Int) := od
          have q23 : x6_2 < (a0.size : Int) := od
          have hx23 := bt_at a0 x6_2
          replace p23 := eq_true p23
          replace q23 := eq_true q23
          go_wp2_with (first | ((with_reducible refine gate_callee (f := 136) rfl ?_); refine goesL_ (some 39) rfl rfl Tryz.func136 kf rfl #[.int .u8 (bt a0 x6_2)] rfl ml ?_; (with_reducible refine (postriderref04_plain.calls (bt a0 x6_2) false _ A24.out).mono ?_); rintro e w' ⟨rfl, ⟨nd, rfl⟩⟩; refine ⟨_, rfl, ?_⟩))
          go_ret3
          exact ⟨by first | rfl | (simp [bneNil]; done) | (simp; done) | (simp [*]; done), dr⟩
      ·rw [if_neg c7] at H
       have c7b0 : decide (x6_2 < (a0.size : Int)) = false := decide_eq_false c7
       clear c7
       simp only [Option.some.injEq, Prod.mk.injEq] at H
       obtain ⟨rfl, rfl, rfl⟩ := H
       go_wp2
       go_ret3
       exact ⟨by first | rfl | (simp [bneNil]; done) | (simp; done) | (simp [*]; done), dr⟩

/-! ### postriderref04_Letter: function 137 -/
mutual
def postriderref04_Letter.j0 : Nat → Int → Bool → Option (Bool)
 | 0, _, _ => none
 | k + 1, x0, x26 => if x26 = true then (some true) else (postriderref04_Letter.l0 k x0 (⟨#[33, 35, 36, 37, 38, 39, 42, 43, 45, 47, 61, 63, 94, 95, 96, 123, 124, 125, 126]⟩ : ByteArray) 0)
def postriderref04_Letter.l0 : Nat → Int → ByteArray → Int → Option (Bool)
 | 0, _, _, _ => none
 | k + 1, x0, x3, x4 => if x4 < (x3.size : Int) then (if 0 ≤ x4 then (if (bt x3 x4) = x0 then (some true) else (postriderref04_Letter.l0 k x0 x3 (wrap64 (x4 + 1)))) else (none)) else (some false)
end
def postriderref04_Letter.f (k : Nat) (a0 : Int) : Option (Bool) := if a0 ≥ 97 then (if a0 ≤ 122 then (postriderref04_Letter.j0 k a0 true) else (if a0 ≥ 65 then (if a0 ≤ 90 then (postriderref04_Letter.j0 k a0 true) else (if a0 ≥ 48 then (postriderref04_Letter.j0 k a0 (decide (a0 ≤ 57))) else (postriderref04_Letter.j0 k a0 false))) else (if a0 ≥ 48 then (postriderref04_Letter.j0 k a0 (decide (a0 ≤ 57))) else (postriderref04_Letter.j0 k a0 false)))) else (if a0 ≥ 65 then (if a0 ≤ 90 then (postriderref04_Letter.j0 k a0 true) else (if a0 ≥ 48 then (postriderref04_Letter.j0 k a0 (decide (a0 ≤ 57))) else (postriderref04_Letter.j0 k a0 false))) else (if a0 ≥ 48 then (postriderref04_Letter.j0 k a0 (decide (a0 ≤ 57))) else (postriderref04_Letter.j0 k a0 false)))
theorem postriderref04_Letter.mono_l : ∀ k, (∀ y0 y1, LeO (postriderref04_Letter.j0 k y0 y1) (postriderref04_Letter.j0 (k + 1) y0 y1)) ∧ (∀ y0 y1 y2, LeO (postriderref04_Letter.l0 k y0 y1 y2) (postriderref04_Letter.l0 (k + 1) y0 y1 y2))
 | 0 => ⟨fun _ _ r h => by simp [postriderref04_Letter.j0] at h, fun _ _ _ r h => by simp [postriderref04_Letter.l0] at h⟩
 | k + 1 => by
  obtain ⟨ih0, ih1⟩ := postriderref04_Letter.mono_l k
  refine ⟨?_, ?_⟩
  ·intro y0 y1
   unfold postriderref04_Letter.j0
   repeat' first
   | (with_reducible first | exact ih0 _ _ | exact ih1 _ _ _ | exact LeO.refl _ | exact LeO.none _ | refine LeO.ite ?_ ?_ | refine LeO.bind ?_ (fun _ => ?_))
  ·intro y0 y1 y2
   unfold postriderref04_Letter.l0
   repeat' first
   | (with_reducible first | exact ih0 _ _ | exact ih1 _ _ _ | exact LeO.refl _ | exact LeO.none _ | refine LeO.ite ?_ ?_ | refine LeO.bind ?_ (fun _ => ?_))
theorem postriderref04_Letter.mono : ∀ a0 k, LeO (postriderref04_Letter.f k a0) (postriderref04_Letter.f (k + 1) a0) := by
 intro a0 k
 obtain ⟨ih0, ih1⟩ := postriderref04_Letter.mono_l k
 unfold postriderref04_Letter.f
 repeat' first
   | (with_reducible first | exact ih0 _ _ | exact ih1 _ _ _ | exact LeO.refl _ | exact LeO.none _ | refine LeO.ite ?_ ?_ | refine LeO.bind ?_ (fun _ => ?_))
theorem postriderref04_Letter.calls (k : Nat) (a0 : Int) (r : Bool) (w : World) (h : postriderref04_Letter.f k a0 = some r) :
  Calls Tryz.prog 137 #[.int .u8 a0] w fun e w' => e = .returned (.bool r) ∧ Drawn0 w w' := by
 have H : (if a0 ≥ 97 then (if a0 ≤ 122 then (postriderref04_Letter.j0 k a0 true) else (if a0 ≥ 65 then (if a0 ≤ 90 then (postriderref04_Letter.j0 k a0 true) else (if a0 ≥ 48 then (postriderref04_Letter.j0 k a0 (decide (a0 ≤ 57))) else (postriderref04_Letter.j0 k a0 false))) else (if a0 ≥ 48 then (postriderref04_Letter.j0 k a0 (decide (a0 ≤ 57))) else (postriderref04_Letter.j0 k a0 false)))) else (if a0 ≥ 65 then (if a0 ≤ 90 then (postriderref04_Letter.j0 k a0 true) else (if a0 ≥ 48 then (postriderref04_Letter.j0 k a0 (decide (a0 ≤ 57))) else (postriderref04_Letter.j0 k a0 false))) else (if a0 ≥ 48 then (postriderref04_Letter.j0 k a0 (decide (a0 ≤ 57))) else (postriderref04_Letter.j0 k a0 false)))) = some r := h
 clear h
 have HC2 := Aside0.mk H
 clear H
 go_enter Tryz.func137, Tryz.ntmps137
 go_upto_region 1 with (fail)
 go_cut [26] (fun v26 wc => ∃ (kq : Nat) (x26_1 : Bool), v26 = .bool x26_1 ∧ Aside0 (postriderref04_Letter.j0 kq a0 x26_1 = some r) ∧ Aside0 (kq ≤ k) ∧ Drawn0 w wc)
 case first =>
  have H := HC2.out
  clear HC2
  by_cases c3 : a0 ≥ 97
  ·rw [if_pos c3] at H
   have c3b0 : decide (97 ≤ a0) = true := decide_eq_true c3
   clear c3
   (first | rw [c3b0] | (simp only [i64_w, i32_w]; rw [c3b0]) | skip)
   by_cases c4 : a0 ≤ 122
   ·rw [if_pos c4] at H
    have c4b0 : decide (a0 ≤ 122) = true := decide_eq_true c4
    clear c4
    have H' := Aside0.mk H
    clear H
    go_wp2
    go_meet
    case rel => exact ⟨_, (true), rs, H', ⟨by first | omega | exact Nat.le_refl _⟩, dr⟩
   ·rw [if_neg c4] at H
    have c4b0 : decide (a0 ≤ 122) = false := decide_eq_false c4
    clear c4
    by_cases c5 : a0 ≥ 65
    ·rw [if_pos c5] at H
     have c5b0 : decide (65 ≤ a0) = true := decide_eq_true c5
     clear c5
     by_cases c6 : a0 ≤ 90
     ·rw [if_pos c6] at H
      have c6b0 : decide (a0 ≤ 90) = true := decide_eq_true c6
      clear c6
      have H' := Aside0.mk H
      clear H
      go_wp2
      go_meet
      case rel => exact ⟨_, (true), rs, H', ⟨by first | omega | exact Nat.le_refl _⟩, dr⟩
     ·rw [if_neg c6] at H
      have c6b0 : decide (a0 ≤ 90) = false := decide_eq_false c6
      clear c6
      by_cases c7 : a0 ≥ 48
      ·rw [if_pos c7] at H
       have c7b0 : decide (48 ≤ a0) = true := decide_eq_true c7
       clear c7
       have H' := Aside0.mk H
       clear H
       go_wp2
       go_meet
       case rel => exact ⟨_, (decide (a0 ≤ 57)), rs, H', ⟨by first | omega | exact Nat.le_refl _⟩, dr⟩
      ·rw [if_neg c7] at H
       have c7b0 : decide (48 ≤ a0) = false := decide_eq_false c7
       clear c7
       have H' := Aside0.mk H
       clear H
       go_wp2
       go_meet
       case rel => exact ⟨_, (false), rs, H', ⟨by first | omega | exact Nat.le_refl _⟩, dr⟩
    ·rw [if_neg c5] at H
     have c5b0 : decide (65 ≤ a0) = false := decide_eq_false c5
     clear c5
     by_cases c8 : a0 ≥ 48
     ·rw [if_pos c8] at H
      have c8b0 : decide (48 ≤ a0) = true := decide_eq_true c8
      clear c8
      have H' := Aside0.mk H
      clear H
      go_wp2
      go_meet
      case rel => exact ⟨_, (decide (a0 ≤ 57)), rs, H', ⟨by first | omega | exact Nat.le_refl _⟩, dr⟩
     ·rw [if_neg c8] at H
      have c8b0 : decide (48 ≤ a0) = false := decide_eq_false c8
      clear c8
      have H' := Aside0.mk H
      clear H
      go_wp2
      go_meet
      case rel => exact ⟨_, (false), rs, H', ⟨by first | omega | exact Nat.le_refl _⟩, dr⟩
  ·rw [if_neg c3] at H
   have c3b0 : decide (97 ≤ a0) = false := decide_eq_false c3
   clear c3
   (first | rw [c3b0] | (simp only [i64_w, i32_w]; rw [c3b0]) | skip)
   by_cases c9 : a0 ≥ 65
   ·rw [if_pos c9] at H
    have c9b0 : decide (65 ≤ a0) = true := decide_eq_true c9
    clear c9
    by_cases c10 : a0 ≤ 90
    ·rw [if_pos c10] at H
     have c10b0 : decide (a0 ≤ 90) = true := decide_eq_true c10
     clear c10
     have H' := Aside0.mk H
     clear H
     go_wp2
     go_meet
     case rel => exact ⟨_, (true), rs, H', ⟨by first | omega | exact Nat.le_refl _⟩, dr⟩
    ·rw [if_neg c10] at H
     have c10b0 : decide (a0 ≤ 90) = false := decide_eq_false c10
     clear c10
     by_cases c11 : a0 ≥ 48
     ·rw [if_pos c11] at H
      have c11b0 : decide (48 ≤ a0) = true := decide_eq_true c11
      clear c11
      have H' := Aside0.mk H
      clear H
      go_wp2
      go_meet
      case rel => exact ⟨_, (decide (a0 ≤ 57)), rs, H', ⟨by first | omega | exact Nat.le_refl _⟩, dr⟩
     ·rw [if_neg c11] at H
      have c11b0 : decide (48 ≤ a0) = false := decide_eq_false c11
      clear c11
      have H' := Aside0.mk H
      clear H
      go_wp2
      go_meet
      case rel => exact ⟨_, (false), rs, H', ⟨by first | omega | exact Nat.le_refl _⟩, dr⟩
   ·rw [if_neg c9] at H
    have c9b0 : decide (65 ≤ a0) = false := decide_eq_false c9
    clear c9
    by_cases c12 : a0 ≥ 48
    ·rw [if_pos c12] at H
     have c12b0 : decide (48 ≤ a0) = true := decide_eq_true c12
     clear c12
     have H' := Aside0.mk H
     clear H
     go_wp2
     go_meet
     case rel => exact ⟨_, (decide (a0 ≤ 57)), rs, H', ⟨by first | omega | exact Nat.le_refl _⟩, dr⟩
    ·rw [if_neg c12] at H
     have c12b0 : decide (48 ≤ a0) = false := decide_eq_false c12
     clear c12
     have H' := Aside0.mk H
     clear H
     go_wp2
     go_meet
     case rel => exact ⟨_, (false), rs, H', ⟨by first | omega | exact Nat.le_refl _⟩, dr⟩
 case rest =>
  clear HC2
  try clear c1
  try clear p2
  try clear c3
  try clear c3b0
  try clear c4
  try clear c4b0
  try clear c5
  try clear c5b0
  try clear c6
  try clear c6b0
  try clear c7
  try clear c7b0
  try clear c8
  try clear c8b0
  try clear c9
  try clear c9b0
  try clear c10
  try clear c10b0
  try clear c11
  try clear c11b0
  try clear c12
  try clear c12b0
  obtain ⟨kq, x26_1, rfl, HA, HJ1, ⟨mc1, rfl⟩⟩ := hcut
  cases kq with
  | zero => exact absurd HA.out (by simp [postriderref04_Letter.j0])
  | succ kj1 =>
   have H := HA.out
   clear HA
   simp only [postriderref04_Letter.j0] at H
   by_cases c13 : x26_1 = true
   ·subst c13
    replace H : (some true) = some r := by rw [if_pos rfl] at H; exact H
    obtain rfl := Option.some.inj H
    go_wp2
    go_ret
    exact ⟨by first | rfl | (simp [bneNil]; done) | (simp; done) | (simp [*]; done), dr⟩
   ·replace c13 := Bool.eq_false_iff.mpr c13
    subst c13
    replace H : (postriderref04_Letter.l0 kj1 a0 (⟨#[33, 35, 36, 37, 38, 39, 42, 43, 45, 47, 61, 63, 94, 95, 96, 123, 124, 125, 126]⟩ : ByteArray) 0) = some r := by rw [if_neg (show ¬ (false = true) by decide)] at H; exact H
    have H' := Aside0.mk H
    clear H
    go_wp2
    go_loopg [4] kj1 (fun kq v4 w' => ∃ (x4_2 : Int), v4 = .int .i64 x4_2 ∧ Aside0 (postriderref04_Letter.l0 kq a0 (⟨#[33, 35, 36, 37, 38, 39, 42, 43, 45, 47, 61, 63, 94, 95, 96, 123, 124, 125, 126]⟩ : ByteArray) x4_2 = some r) ∧ Aside0 (kq ≤ kj1) ∧ Drawn0 w w')
    case atStart => exact ⟨(0), rs, H', ⟨Nat.le_refl _⟩, dr⟩
    case round =>
     clear H'
     try clear c1
     try clear p2
     try clear c3
     try clear c3b0
     try clear c4
     try clear c4b0
     try clear c5
     try clear c5b0
     try clear c6
     try clear c6b0
     try clear c7
     try clear c7b0
     try clear c8
     try clear c8b0
     try clear c9
     try clear c9b0
     try clear c10
     try clear c10b0
     try clear c11
     try clear c11b0
     try clear c12
     try clear c12b0
     try clear c13
     try clear p2
     obtain ⟨x4_2, rfl, HA, HK2, ⟨m2, rfl⟩⟩ := hrel
     cases gk with
     | zero => exact absurd HA.out (by simp [postriderref04_Letter.l0])
     | succ k2 =>
      have H := HA.out
      clear HA
      simp only [postriderref04_Letter.l0] at H
      by_cases c14 : x4_2 < ((⟨#[33, 35, 36, 37, 38, 39, 42, 43, 45, 47, 61, 63, 94, 95, 96, 123, 124, 125, 126]⟩ : ByteArray).size : Int)
      ·rw [if_pos c14] at H
       have c14b0 : decide (x4_2 < ((⟨#[33, 35, 36, 37, 38, 39, 42, 43, 45, 47, 61, 63, 94, 95, 96, 123, 124, 125, 126]⟩ : ByteArray).size : Int)) = true := decide_eq_true c14
       have c14b0n : decide (x4_2 < 19) = true := c14b0
       clear c14
       by_cases c15 : 0 ≤ x4_2
       rotate_left
       ·rw [if_neg c15] at H
        exact ab H
       rw [if_pos c15] at H
       have c15b0 : decide (0 ≤ x4_2) = true := decide_eq_true c15
       clear c15
       by_cases c17 : (bt (⟨#[33, 35, 36, 37, 38, 39, 42, 43, 45, 47, 61, 63, 94, 95, 96, 123, 124, 125, 126]⟩ : ByteArray) x4_2) = a0
       ·rw [if_pos c17] at H
        have c17b0 : ((bt (⟨#[33, 35, 36, 37, 38, 39, 42, 43, 45, 47, 61, 63, 94, 95, 96, 123, 124, 125, 126]⟩ : ByteArray) x4_2) == a0) = true := beq_iff_eq.mpr c17
        have c17b1 : ((bt (⟨#[33, 35, 36, 37, 38, 39, 42, 43, 45, 47, 61, 63, 94, 95, 96, 123, 124, 125, 126]⟩ : ByteArray) x4_2) != a0) = false := bne_eq_false_iff_eq.mpr c17
        clear c17
        obtain rfl := Option.some.inj H
        have p16 : 0 ≤ (x4_2 : Int) := od
        have q16 : x4_2 < (19 : Int) := od
        have hx16 := bt_at (⟨#[33, 35, 36, 37, 38, 39, 42, 43, 45, 47, 61, 63, 94, 95, 96, 123, 124, 125, 126]⟩ : ByteArray) x4_2
        replace p16 := eq_true p16
        replace q16 := eq_true q16
        go_wp2
        go_ret
        exact ⟨by first | rfl | (simp [bneNil]; done) | (simp; done) | (simp [*]; done), dr⟩
       ·rw [if_neg c17] at H
        have c17b0 : ((bt (⟨#[33, 35, 36, 37, 38, 39, 42, 43, 45, 47, 61, 63, 94, 95, 96, 123, 124, 125, 126]⟩ : ByteArray) x4_2) == a0) = false := beq_eq_false_iff_ne.mpr c17
        have c17b1 : ((bt (⟨#[33, 35, 36, 37, 38, 39, 42, 43, 45, 47, 61, 63, 94, 95, 96, 123, 124, 125, 126]⟩ : ByteArray) x4_2) != a0) = true := bne_iff_ne.mpr c17
        have H' := Aside0.mk H
        clear H
        have p16 : 0 ≤ (x4_2 : Int) := od
        have q16 : x4_2 < (19 : Int) := od
        have hx16 := bt_at (⟨#[33, 35, 36, 37, 38, 39, 42, 43, 45, 47, 61, 63, 94, 95, 96, 123, 124, 125, 126]⟩ : ByteArray) x4_2
        replace p16 := eq_true p16
        replace q16 := eq_true q16
        go_wp2
        go_roundg k2
        case measure => have := HJ1.out; have := HK2.out; omega
        case rel => exact ⟨(wrap64 (x4_2 + 1)), rs, H', ⟨by have := HJ1.out; have := HK2.out; omega⟩, dr⟩
      ·rw [if_neg c14] at H
       have c14b0 : decide (x4_2 < ((⟨#[33, 35, 36, 37, 38, 39, 42, 43, 45, 47, 61, 63, 94, 95, 96, 123, 124, 125, 126]⟩ : ByteArray).size : Int)) = false := decide_eq_false c14
       have c14b0n : decide (x4_2 < 19) = false := c14b0
       clear c14
       obtain rfl := Option.some.inj H
       go_wp2
       go_ret
       exact ⟨by first | rfl | (simp [bneNil]; done) | (simp; done) | (simp [*]; done), dr⟩

/-! ### postriderref04_DotAtom: function 83 -/
def postriderref04_DotAtom.l0 : Nat → ByteArray → Bool → Int → Option (Bool)
 | 0, _, _, _ => none
 | k + 1, x0, x3, x4 => if x4 < (x0.size : Int) then (if 0 ≤ x4 then (if (bt x0 x4) = 46 then (if x3 = true then (some false) else (postriderref04_DotAtom.l0 k x0 true (wrap64 (x4 + 1)))) else ((postriderref04_Letter.f k (bt x0 x4)).bind fun t258 => (if t258 = true then (postriderref04_DotAtom.l0 k x0 false (wrap64 (x4 + 1))) else (some false)))) else (none)) else (some (!x3))
def postriderref04_DotAtom.f (k : Nat) (a0 : ByteArray) : Option (Bool) := postriderref04_DotAtom.l0 k a0 true 0
theorem postriderref04_DotAtom.mono_l : ∀ k, (∀ y0 y1 y2, LeO (postriderref04_DotAtom.l0 k y0 y1 y2) (postriderref04_DotAtom.l0 (k + 1) y0 y1 y2))
 | 0 => fun _ _ _ r h => by simp [postriderref04_DotAtom.l0] at h
 | k + 1 => by
  have ih0 := postriderref04_DotAtom.mono_l k
  ·intro y0 y1 y2
   unfold postriderref04_DotAtom.l0
   repeat' first
   | (with_reducible first | exact ih0 _ _ _ | exact postriderref04_Letter.mono _ _ | exact LeO.refl _ | exact LeO.none _ | refine LeO.ite ?_ ?_ | refine LeO.bind ?_ (fun _ => ?_))
theorem postriderref04_DotAtom.mono : ∀ a0 k, LeO (postriderref04_DotAtom.f k a0) (postriderref04_DotAtom.f (k + 1) a0) := by
 intro a0 k
 have ih0 := postriderref04_DotAtom.mono_l k
 unfold postriderref04_DotAtom.f
 repeat' first
   | (with_reducible first | exact ih0 _ _ _ | exact postriderref04_Letter.mono _ _ | exact LeO.refl _ | exact LeO.none _ | refine LeO.ite ?_ ?_ | refine LeO.bind ?_ (fun _ => ?_))
theorem postriderref04_DotAtom.calls (k : Nat) (a0 : ByteArray) (r : Bool) (w : World) (h : postriderref04_DotAtom.f k a0 = some r) :
  Calls Tryz.prog 83 #[.string a0] w fun e w' => e = .returned (.bool r) ∧ Drawn0 w w' := by
 have H : (postriderref04_DotAtom.l0 k a0 true 0) = some r := h
 clear h
 have H' := Aside0.mk H
 clear H
 go_enter Tryz.func83, Tryz.ntmps83
 go_wp2
 go_loopg [3, 4] k (fun kq v3 v4 w' => ∃ (x3_1 : Bool) (x4_1 : Int), v3 = .bool x3_1 ∧ v4 = .int .i64 x4_1 ∧ Aside0 (postriderref04_DotAtom.l0 kq a0 x3_1 x4_1 = some r) ∧ Aside0 (kq ≤ k) ∧ Drawn0 w w')
 case atStart => exact ⟨(true), (0), rs, rs, H', ⟨Nat.le_refl _⟩, dr⟩
 case round =>
  clear H'
  obtain ⟨x3_1, x4_1, rfl, rfl, HA, HK1, ⟨m1, rfl⟩⟩ := hrel
  cases gk with
  | zero => exact absurd HA.out (by simp [postriderref04_DotAtom.l0])
  | succ k1 =>
   have H := HA.out
   clear HA
   simp only [postriderref04_DotAtom.l0] at H
   by_cases c2 : x4_1 < (a0.size : Int)
   ·rw [if_pos c2] at H
    have c2b0 : decide (x4_1 < (a0.size : Int)) = true := decide_eq_true c2
    clear c2
    by_cases c3 : 0 ≤ x4_1
    rotate_left
    ·rw [if_neg c3] at H
     exact ab H
    rw [if_pos c3] at H
    have c3b0 : decide (0 ≤ x4_1) = true := decide_eq_true c3
    clear c3
    by_cases c5 : (bt a0 x4_1) = 46
    ·rw [if_pos c5] at H
     have c5b0 : ((bt a0 x4_1) == 46) = true := beq_iff_eq.mpr c5
     have c5b1 : ((bt a0 x4_1) != 46) = false := bne_eq_false_iff_eq.mpr c5
     clear c5
     by_cases c6 : x3_1 = true
     ·subst c6
      replace H : (some false) = some r := by rw [if_pos rfl] at H; exact H
      obtain rfl := Option.some.inj H
      have p4 : 0 ≤ (x4_1 : Int) := od
      have q4 : x4_1 < (a0.size : Int) := od
      have hx4 := bt_at a0 x4_1
      replace p4 := eq_true p4
      replace q4 := eq_true q4
      go_wp2
      go_ret
      exact ⟨by first | rfl | (simp [bneNil]; done) | (simp; done) | (simp [*]; done), dr⟩
     ·replace c6 := Bool.eq_false_iff.mpr c6
      subst c6
      replace H : (postriderref04_DotAtom.l0 k1 a0 true (wrap64 (x4_1 + 1))) = some r := by rw [if_neg (show ¬ (false = true) by decide)] at H; exact H
      have H' := Aside0.mk H
      clear H
      have p4 : 0 ≤ (x4_1 : Int) := od
      have q4 : x4_1 < (a0.size : Int) := od
      have hx4 := bt_at a0 x4_1
      replace p4 := eq_true p4
      replace q4 := eq_true q4
      go_wp2
      go_roundg k1
      case measure => have := HK1.out; omega
      case rel => exact ⟨(true), (wrap64 (x4_1 + 1)), rs, rs, H', ⟨by have := HK1.out; omega⟩, dr⟩
    ·rw [if_neg c5] at H
     have c5b0 : ((bt a0 x4_1) == 46) = false := beq_eq_false_iff_ne.mpr c5
     have c5b1 : ((bt a0 x4_1) != 46) = true := bne_iff_ne.mpr c5
     obtain ⟨t258, A80, H⟩ := Option.bind_eq_some_iff.mp H
     replace H : (if t258 = true then (postriderref04_DotAtom.l0 k1 a0 false (wrap64 (x4_1 + 1))) else (some false)) = some r := H
     have A8 := Aside0.mk A80
     clear A80
     by_cases c9 : t258 = true
     ·subst c9
      replace H : (postriderref04_DotAtom.l0 k1 a0 false (wrap64 (x4_1 + 1))) = some r := by rw [if_pos rfl] at H; exact H
      have H' := Aside0.mk H
      clear H
      have p4 : 0 ≤ (x4_1 : Int) := od
      have q4 : x4_1 < (a0.size : Int) := od
      have hx4 := bt_at a0 x4_1
      replace p4 := eq_true p4
      replace q4 := eq_true q4
      have p7 : 0 ≤ (x4_1 : Int) := od
      have q7 : x4_1 < (a0.size : Int) := od
      have hx7 := bt_at a0 x4_1
      replace p7 := eq_true p7
      replace q7 := eq_true q7
      go_wp2_with (first | ((with_reducible refine gate_callee (f := 137) rfl ?_); refine goesL_ (some 19) rfl rfl Tryz.func137 kf rfl #[.int .u8 (bt a0 x4_1)] rfl ml ?_; (with_reducible refine (postriderref04_Letter.calls k1 (bt a0 x4_1) true _ A8.out).mono ?_); rintro e w' ⟨rfl, ⟨nd, rfl⟩⟩; refine ⟨_, rfl, ?_⟩))
      go_roundg k1
      case measure => have := HK1.out; omega
      case rel => exact ⟨(false), (wrap64 (x4_1 + 1)), rs, rs, H', ⟨by have := HK1.out; omega⟩, dr⟩
     ·replace c9 := Bool.eq_false_iff.mpr c9
      subst c9
      replace H : (some false) = some r := by rw [if_neg (show ¬ (false = true) by decide)] at H; exact H
      obtain rfl := Option.some.inj H
      have p4 : 0 ≤ (x4_1 : Int) := od
      have q4 : x4_1 < (a0.size : Int) := od
      have hx4 := bt_at a0 x4_1
      replace p4 := eq_true p4
      replace q4 := eq_true q4
      have p7 : 0 ≤ (x4_1 : Int) := od
      have q7 : x4_1 < (a0.size : Int) := od
      have hx7 := bt_at a0 x4_1
      replace p7 := eq_true p7
      replace q7 := eq_true q7
      go_wp2_with (first | ((with_reducible refine gate_callee (f := 137) rfl ?_); refine goesL_ (some 19) rfl rfl Tryz.func137 kf rfl #[.int .u8 (bt a0 x4_1)] rfl ml ?_; (with_reducible refine (postriderref04_Letter.calls k1 (bt a0 x4_1) false _ A8.out).mono ?_); rintro e w' ⟨rfl, ⟨nd, rfl⟩⟩; refine ⟨_, rfl, ?_⟩))
      go_ret
      exact ⟨by first | rfl | (simp [bneNil]; done) | (simp; done) | (simp [*]; done), dr⟩
   ·rw [if_neg c2] at H
    have c2b0 : decide (x4_1 < (a0.size : Int)) = false := decide_eq_false c2
    clear c2
    obtain rfl := Option.some.inj H
    go_wp2
    go_ret
    exact ⟨by first | rfl | (simp [bneNil]; done) | (simp; done) | (simp [*]; done), dr⟩

end Go.Proofs.YtacjnapgdikhbaaGreatDoor.Q
end
section
namespace Go.Proofs.YtacjnapgdikhbaaGreatDoor.Q

/-! ### postriderref05_Parse: function 46 -/
mutual
def postriderref05_Parse.j0 : Nat → ByteArray → Int → Bool → Option (ByteArray × ByteArray × Int)
 | 0, _, _, _ => none
 | k + 1, x0, x5, x17 => if x17 = true then ((postriderref04_Quoted.f k x0).bind fun bt260 => (if bt260.2.2 = 0 then (if bt260.1.toList = ([] : List UInt8) then (some ((⟨#[]⟩ : ByteArray), (⟨#[]⟩ : ByteArray), 5)) else (postriderref05_Parse.j2 k x0 bt260.1 bt260.2.1)) else (some ((⟨#[]⟩ : ByteArray), (⟨#[]⟩ : ByteArray), 5)))) else (postriderref05_Parse.l0 k x0 x5)
def postriderref05_Parse.j2 : Nat → ByteArray → ByteArray → Int → Option (ByteArray × ByteArray × Int)
 | 0, _, _, _ => none
 | k + 1, x0, x4, x5 => if x5 ≥ (x0.size : Int) then (postriderref05_Parse.j3 k x0 x4 x5 true) else (if 0 ≤ x5 then (if x5 < (x0.size : Int) then (postriderref05_Parse.j3 k x0 x4 x5 ((bt x0 x5) != 64)) else (none)) else (none))
def postriderref05_Parse.j3 : Nat → ByteArray → ByteArray → Int → Bool → Option (ByteArray × ByteArray × Int)
 | 0, _, _, _, _ => none
 | k + 1, x0, x4, x5, x61 => if x61 = true then (some ((⟨#[]⟩ : ByteArray), (⟨#[]⟩ : ByteArray), 5)) else (if 0 ≤ (wrap64 (x5 + 1)) then (if (wrap64 (x5 + 1)) ≤ (x0.size : Int) then ((postriderref05_Domain.f k (x0.extract ((wrap64 (x5 + 1)) : Int).toNat x0.size)).bind fun t265 => (if t265 = 5 then (some ((⟨#[]⟩ : ByteArray), (⟨#[]⟩ : ByteArray), 5)) else (if t265 = 3 then (some ((⟨#[]⟩ : ByteArray), (⟨#[]⟩ : ByteArray), 3)) else (if (x4.size : Int) > 64 then (some ((⟨#[]⟩ : ByteArray), (⟨#[]⟩ : ByteArray), 3)) else (some (x4, x0.extract ((wrap64 (x5 + 1)) : Int).toNat x0.size, 0)))))) else (none)) else (none))
def postriderref05_Parse.l0 : Nat → ByteArray → Int → Option (ByteArray × ByteArray × Int)
 | 0, _, _ => none
 | k + 1, x0, x5 => if x5 < (x0.size : Int) then (if 0 ≤ x5 then (if (bt x0 x5) = 64 then (if x5 ≤ (x0.size : Int) then ((postriderref04_DotAtom.f k (x0.extract 0 (x5 : Int).toNat)).bind fun t263 => (if t263 = true then (postriderref05_Parse.j2 k x0 (x0.extract 0 (x5 : Int).toNat) x5) else (some ((⟨#[]⟩ : ByteArray), (⟨#[]⟩ : ByteArray), 5)))) else (none)) else (postriderref05_Parse.l0 k x0 (wrap64 (x5 + 1)))) else (none)) else (if 0 ≤ x5 then (if x5 ≤ (x0.size : Int) then ((postriderref04_DotAtom.f k (x0.extract 0 (x5 : Int).toNat)).bind fun t264 => (if t264 = true then (postriderref05_Parse.j2 k x0 (x0.extract 0 (x5 : Int).toNat) x5) else (some ((⟨#[]⟩ : ByteArray), (⟨#[]⟩ : ByteArray), 5)))) else (none)) else (none))
end
def postriderref05_Parse.f (k : Nat) (a0 : ByteArray) : Option (ByteArray × ByteArray × Int) := if (a0.size : Int) > 0 then (if 0 < (a0.size : Int) then (postriderref05_Parse.j0 k a0 0 ((bt a0 0) == 34)) else (none)) else (postriderref05_Parse.j0 k a0 0 false)
theorem postriderref05_Parse.mono_l : ∀ k, (∀ y0 y1 y2, LeO (postriderref05_Parse.j0 k y0 y1 y2) (postriderref05_Parse.j0 (k + 1) y0 y1 y2)) ∧ (∀ y0 y1 y2, LeO (postriderref05_Parse.j2 k y0 y1 y2) (postriderref05_Parse.j2 (k + 1) y0 y1 y2)) ∧ (∀ y0 y1 y2 y3, LeO (postriderref05_Parse.j3 k y0 y1 y2 y3) (postriderref05_Parse.j3 (k + 1) y0 y1 y2 y3)) ∧ (∀ y0 y1, LeO (postriderref05_Parse.l0 k y0 y1) (postriderref05_Parse.l0 (k + 1) y0 y1))
 | 0 => ⟨fun _ _ _ r h => by simp [postriderref05_Parse.j0] at h, fun _ _ _ r h => by simp [postriderref05_Parse.j2] at h, fun _ _ _ _ r h => by simp [postriderref05_Parse.j3] at h, fun _ _ r h => by simp [postriderref05_Parse.l0] at h⟩
 | k + 1 => by
  obtain ⟨ih0, ih1, ih2, ih3⟩ := postriderref05_Parse.mono_l k
  refine ⟨?_, ?_, ?_, ?_⟩
  ·intro y0 y1 y2
   unfold postriderref05_Parse.j0
   repeat' first
   | (with_reducible first | exact ih0 _ _ _ | exact ih1 _ _ _ | exact ih2 _ _ _ _ | exact ih3 _ _ | exact postriderref04_DotAtom.mono _ _ | exact postriderref04_Quoted.mono _ _ | exact postriderref05_Domain.mono _ _ | exact LeO.refl _ | exact LeO.none _ | refine LeO.ite ?_ ?_ | refine LeO.bind ?_ (fun _ => ?_))
  ·intro y0 y1 y2
   unfold postriderref05_Parse.j2
   repeat' first
   | (with_reducible first | exact ih0 _ _ _ | exact ih1 _ _ _ | exact ih2 _ _ _ _ | exact ih3 _ _ | exact postriderref04_DotAtom.mono _ _ | exact postriderref04_Quoted.mono _ _ | exact postriderref05_Domain.mono _ _ | exact LeO.refl _ | exact LeO.none _ | refine LeO.ite ?_ ?_ | refine LeO.bind ?_ (fun _ => ?_))
  ·intro y0 y1 y2 y3
   unfold postriderref05_Parse.j3
   repeat' first
   | (with_reducible first | exact ih0 _ _ _ | exact ih1 _ _ _ | exact ih2 _ _ _ _ | exact ih3 _ _ | exact postriderref04_DotAtom.mono _ _ | exact postriderref04_Quoted.mono _ _ | exact postriderref05_Domain.mono _ _ | exact LeO.refl _ | exact LeO.none _ | refine LeO.ite ?_ ?_ | refine LeO.bind ?_ (fun _ => ?_))
  ·intro y0 y1
   unfold postriderref05_Parse.l0
   repeat' first
   | (with_reducible first | exact ih0 _ _ _ | exact ih1 _ _ _ | exact ih2 _ _ _ _ | exact ih3 _ _ | exact postriderref04_DotAtom.mono _ _ | exact postriderref04_Quoted.mono _ _ | exact postriderref05_Domain.mono _ _ | exact LeO.refl _ | exact LeO.none _ | refine LeO.ite ?_ ?_ | refine LeO.bind ?_ (fun _ => ?_))
theorem postriderref05_Parse.mono : ∀ a0 k, LeO (postriderref05_Parse.f k a0) (postriderref05_Parse.f (k + 1) a0) := by
 intro a0 k
 obtain ⟨ih0, ih1, ih2, ih3⟩ := postriderref05_Parse.mono_l k
 unfold postriderref05_Parse.f
 repeat' first
   | (with_reducible first | exact ih0 _ _ _ | exact ih1 _ _ _ | exact ih2 _ _ _ _ | exact ih3 _ _ | exact postriderref04_DotAtom.mono _ _ | exact postriderref04_Quoted.mono _ _ | exact postriderref05_Domain.mono _ _ | exact LeO.refl _ | exact LeO.none _ | refine LeO.ite ?_ ?_ | refine LeO.bind ?_ (fun _ => ?_))
theorem postriderref05_Parse.calls (k : Nat) (a0 : ByteArray) (r1 : ByteArray) (r2 : ByteArray) (r3 : Int) (w : World) (h : postriderref05_Parse.f k a0 = some (r1, r2, r3)) :
  Calls Tryz.prog 46 #[.string a0] w fun e w' => e = .returned (.tuple #[.agg #[.string r1, .string r2], .int .i64 r3]) ∧ Below w.heap.size w w' := by
 have hu46 := Tryz.underlying46
 have HB := Aside0.mk (Below.refl w.heap.size w)
 have H : (if (a0.size : Int) > 0 then (if 0 < (a0.size : Int) then (postriderref05_Parse.j0 k a0 0 ((bt a0 0) == 34)) else (none)) else (postriderref05_Parse.j0 k a0 0 false)) = some (r1, r2, r3) := h
 clear h
 have HC2 := Aside0.mk H
 clear H
 go_enter Tryz.func46, Tryz.ntmps46
 go_upto_region 3 with (first | ((with_reducible refine gate_dst (N := 2) rfl ?_); (try (refine gate_guard (by rfl) ?_; dsimp only)); refine box_event ?hg (N := 2) ?hd (cs := #[.string (⟨#[]⟩ : ByteArray), .string (⟨#[]⟩ : ByteArray)]) (t := 46) ?hr ?_; (case hd => rfl); (case hg => rfl); (case hr => first | (go_simp; done) | (go_simp; rfl)); intro gb259 hg w3 hbox hb; have BK259 := Aside0.mk (hbox); have GW259 := Aside0.mk (gz hg : w.heap.size ≤ gb259); have GE259 := Aside0.mk (gz hg : w.heap.size ≤ gb259); replace HB := Aside0.mk (below_step bl hb); clear hb hbox hg))
 (try simp only [Act.put, sA, sB, sC])
 go_cut [17] (fun v17 wc => ∃ (kq : Nat) (x17_1 : Bool), v17 = .bool x17_1 ∧ Aside0 (postriderref05_Parse.j0 kq a0 0 x17_1 = some (r1, r2, r3)) ∧ Aside0 (kq ≤ k) ∧ Aside0 (wc.heap[gb259]? = some (.cells #[.string (⟨#[]⟩ : ByteArray), .string (⟨#[]⟩ : ByteArray)] 46 (0, 0))) ∧ Aside0 (Below w.heap.size w wc))
 case first =>
  have H := HC2.out
  clear HC2
  by_cases c4 : (a0.size : Int) > 0
  ·rw [if_pos c4] at H
   have c4b0 : decide (0 < (a0.size : Int)) = true := decide_eq_true c4
   have c4b1 : decide (0 < a0.size) = true := decide_eq_true (by omega)
   clear c4
   (first | rw [c4b0] | (simp only [i64_w, i32_w]; rw [c4b0]) | skip)
   by_cases c5 : 0 < (a0.size : Int)
   rotate_left
   ·rw [if_neg c5] at H
    exact ab H
   rw [if_pos c5] at H
   have c5b0 : decide (0 < (a0.size : Int)) = true := decide_eq_true c5
   have c5b1 : decide (0 < a0.size) = true := decide_eq_true (by omega)
   clear c5
   have H' := Aside0.mk H
   clear H
   have p6 : 0 ≤ (0 : Int) := (by omega)
   have q6 : 0 < a0.size := (by have : (0 : Int) < (a0.size : Int) := od; omega)
   have hx6 : ∀ h : 0 < a0.size, ((a0[0]'h).toNat : Int) = bt a0 0 := bt_at a0 0
   clear p6
   have qi6 : (0 < (a0.size : Int)) = True := eq_true (od)
   replace q6 := eq_true q6
   go_wp2
   go_meet
   case rel => exact ⟨_, (((bt a0 0) == 34)), rs, H', ⟨by first | omega | exact Nat.le_refl _⟩, ⟨bk BK259.out⟩, ⟨bl⟩⟩
  ·rw [if_neg c4] at H
   have c4b0 : decide (0 < (a0.size : Int)) = false := decide_eq_false c4
   have c4b1 : decide (0 < a0.size) = false := decide_eq_false (by omega)
   clear c4
   (first | rw [c4b0] | (simp only [i64_w, i32_w]; rw [c4b0]) | skip)
   have H' := Aside0.mk H
   clear H
   go_wp2
   go_meet
   case rel => exact ⟨_, (false), rs, H', ⟨by first | omega | exact Nat.le_refl _⟩, ⟨bk BK259.out⟩, ⟨bl⟩⟩
 case rest =>
  clear HC2
  try clear p2
  try clear c4
  try clear c4b0
  try clear c4b1
  try clear c5
  try clear c5b0
  try clear c5b1
  try clear p6
  try clear q6
  try clear hx6
  try clear qi6
  try clear p6
  try clear q6
  obtain ⟨kq, x17_1, rfl, HA, HJ1, BK259, HB⟩ := hcut
  cases kq with
  | zero => exact absurd HA.out (by simp [postriderref05_Parse.j0])
  | succ kj1 =>
   have H := HA.out
   clear HA
   simp only [postriderref05_Parse.j0] at H
   have HC7 := Aside0.mk H
   clear H
   go_upto_if 17 with (fail)
   go_cut [4, 5] (fun v4 v5 wc => ∃ (kq : Nat) (x4_6 : ByteArray) (x5_6 : Int) (x260000_6 : ByteArray) (x260001_6 : ByteArray), v4 = .string x4_6 ∧ v5 = .int .i64 x5_6 ∧ Aside0 (postriderref05_Parse.j2 kq a0 x4_6 x5_6 = some (r1, r2, r3)) ∧ Aside0 (kq ≤ kj1) ∧ Aside0 (wc.heap[gb259]? = some (.cells #[.string x260000_6, .string x260001_6] 46 (0, 0))) ∧ Aside0 (Below w.heap.size w wc))
   case first =>
    have H := HC7.out
    clear HC7
    by_cases c8 : x17_1 = true
    ·subst c8
     replace H : ((postriderref04_Quoted.f kj1 a0).bind fun bt260 => (if bt260.2.2 = 0 then (if bt260.1.toList = ([] : List UInt8) then (some ((⟨#[]⟩ : ByteArray), (⟨#[]⟩ : ByteArray), 5)) else (postriderref05_Parse.j2 kj1 a0 bt260.1 bt260.2.1)) else (some ((⟨#[]⟩ : ByteArray), (⟨#[]⟩ : ByteArray), 5)))) = some (r1, r2, r3) := by rw [if_pos rfl] at H; exact H
     obtain ⟨⟨t260, t261, t262⟩, A90, H⟩ := Option.bind_eq_some_iff.mp H
     replace H : (if t262 = 0 then (if t260.toList = ([] : List UInt8) then (some ((⟨#[]⟩ : ByteArray), (⟨#[]⟩ : ByteArray), 5)) else (postriderref05_Parse.j2 kj1 a0 t260 t261)) else (some ((⟨#[]⟩ : ByteArray), (⟨#[]⟩ : ByteArray), 5))) = some (r1, r2, r3) := H
     have A9 := Aside0.mk A90
     clear A90
     by_cases c10 : t262 = 0
     ·rw [if_pos c10] at H
      have c10b0 : (t262 == 0) = true := beq_iff_eq.mpr c10
      have c10b1 : (t262 != 0) = false := bne_eq_false_iff_eq.mpr c10
      clear c10
      (first | rw [c10b0] | (simp only [i64_w, i32_w]; rw [c10b0]) | skip)
      by_cases c11 : t260.toList = ([] : List UInt8)
      ·rw [if_pos c11] at H
       have c11b0 : (t260.toList == ([] : List UInt8)) = true := beq_iff_eq.mpr c11
       have c11b1 : (t260.toList != ([] : List UInt8)) = false := bne_eq_false_iff_eq.mpr c11
       clear c11
       simp only [Option.some.injEq, Prod.mk.injEq] at H
       obtain ⟨rfl, rfl, rfl⟩ := H
       go_wp2_with (first | ((with_reducible refine gate_callee (f := 82) rfl ?_); refine goesL_ (some 20) rfl rfl Tryz.func82 kf rfl #[.string a0] rfl ml ?_; (with_reducible refine (postriderref04_Quoted.calls kj1 a0 t260 t261 t262 _ A9.out).mono ?_); rintro e w' ⟨rfl, ⟨nd, rfl⟩⟩; refine ⟨_, rfl, ?_⟩; (try (rw [drewN_self wc]; generalize hq_ : World.drewN wc _ = wc; have n0_ : Aside0 (wc.heap[gb259]? = some (.cells #[.string (⟨#[]⟩ : ByteArray), .string (⟨#[]⟩ : ByteArray)] 46 (0, 0))) := ⟨by rw [← hq_]; exact (bk BK259.out)⟩; have n1_ : Aside0 (Below w.heap.size w wc) := ⟨by rw [← hq_]; exact bl⟩; clear BK259 HB hq_; have BK259 := n0_; have HB := n1_; clear n0_ n1_)); have hcz12_0 := cz BK259.out 0 (.string (⟨#[]⟩ : ByteArray)); have hcz12_1 := cz BK259.out 1 (.string (⟨#[]⟩ : ByteArray)); have hfz12_0 := blk_frozen BK259.out 0; have hfz12_1 := blk_frozen BK259.out 1))
       refine bodyPost_ret (results_ct rfl _ _ gb259 46 #[.string (⟨#[]⟩ : ByteArray), .string (⟨#[]⟩ : ByteArray)] (0, 0) _ rfl (by (with_reducible repeat (first | refine blk_drewN ?_ _ | refine blk_drew ?_ | refine blk_alloc ?_ _)); refine blk_put (cs := #[.string (⟨#[]⟩ : ByteArray), .string (⟨#[]⟩ : ByteArray)]) ?_ 1 _ rfl; (with_reducible repeat (first | refine blk_drewN ?_ _ | refine blk_drew ?_ | refine blk_alloc ?_ _)); refine blk_put (cs := #[.string (⟨#[]⟩ : ByteArray), .string (⟨#[]⟩ : ByteArray)]) ?_ 0 _ rfl; (with_reducible repeat (first | refine blk_drewN ?_ _ | refine blk_drew ?_ | refine blk_alloc ?_ _)); exact BK259.out) Tryz.underlying46 rfl kf) rfl ?_
       exact ⟨rf, bl⟩
      ·rw [if_neg c11] at H
       have c11b0 : (t260.toList == ([] : List UInt8)) = false := beq_eq_false_iff_ne.mpr c11
       have c11b1 : (t260.toList != ([] : List UInt8)) = true := bne_iff_ne.mpr c11
       have H' := Aside0.mk H
       clear H
       go_wp2_with (first | ((with_reducible refine gate_callee (f := 82) rfl ?_); refine goesL_ (some 20) rfl rfl Tryz.func82 kf rfl #[.string a0] rfl ml ?_; (with_reducible refine (postriderref04_Quoted.calls kj1 a0 t260 t261 t262 _ A9.out).mono ?_); rintro e w' ⟨rfl, ⟨nd, rfl⟩⟩; refine ⟨_, rfl, ?_⟩))
       go_meet
       case rel => exact ⟨_, (t260), (t261), ((⟨#[]⟩ : ByteArray)), ((⟨#[]⟩ : ByteArray)), rs, rs, H', ⟨by have := HJ1.out; first | omega | exact Nat.le_refl _⟩, ⟨bk BK259.out⟩, ⟨bl⟩⟩
     ·rw [if_neg c10] at H
      have c10b0 : (t262 == 0) = false := beq_eq_false_iff_ne.mpr c10
      have c10b1 : (t262 != 0) = true := bne_iff_ne.mpr c10
      (first | rw [c10b0] | (simp only [i64_w, i32_w]; rw [c10b0]) | skip)
      simp only [Option.some.injEq, Prod.mk.injEq] at H
      obtain ⟨rfl, rfl, rfl⟩ := H
      go_wp2_with (first | ((with_reducible refine gate_callee (f := 82) rfl ?_); refine goesL_ (some 20) rfl rfl Tryz.func82 kf rfl #[.string a0] rfl ml ?_; (with_reducible refine (postriderref04_Quoted.calls kj1 a0 t260 t261 t262 _ A9.out).mono ?_); rintro e w' ⟨rfl, ⟨nd, rfl⟩⟩; refine ⟨_, rfl, ?_⟩; (try (rw [drewN_self wc]; generalize hq_ : World.drewN wc _ = wc; have n0_ : Aside0 (wc.heap[gb259]? = some (.cells #[.string (⟨#[]⟩ : ByteArray), .string (⟨#[]⟩ : ByteArray)] 46 (0, 0))) := ⟨by rw [← hq_]; exact (bk BK259.out)⟩; have n1_ : Aside0 (Below w.heap.size w wc) := ⟨by rw [← hq_]; exact bl⟩; clear BK259 HB hq_; have BK259 := n0_; have HB := n1_; clear n0_ n1_)); have hcz13_0 := cz BK259.out 0 (.string (⟨#[]⟩ : ByteArray)); have hcz13_1 := cz BK259.out 1 (.string (⟨#[]⟩ : ByteArray)); have hfz13_0 := blk_frozen BK259.out 0; have hfz13_1 := blk_frozen BK259.out 1))
      refine bodyPost_ret (results_ct rfl _ _ gb259 46 #[.string (⟨#[]⟩ : ByteArray), .string (⟨#[]⟩ : ByteArray)] (0, 0) _ rfl (by (with_reducible repeat (first | refine blk_drewN ?_ _ | refine blk_drew ?_ | refine blk_alloc ?_ _)); refine blk_put (cs := #[.string (⟨#[]⟩ : ByteArray), .string (⟨#[]⟩ : ByteArray)]) ?_ 1 _ rfl; (with_reducible repeat (first | refine blk_drewN ?_ _ | refine blk_drew ?_ | refine blk_alloc ?_ _)); refine blk_put (cs := #[.string (⟨#[]⟩ : ByteArray), .string (⟨#[]⟩ : ByteArray)]) ?_ 0 _ rfl; (with_reducible repeat (first | refine blk_drewN ?_ _ | refine blk_drew ?_ | refine blk_alloc ?_ _)); exact BK259.out) Tryz.underlying46 rfl kf) rfl ?_
      exact ⟨rf, bl⟩
    ·replace c8 := Bool.eq_false_iff.mpr c8
     subst c8
     replace H : (postriderref05_Parse.l0 kj1 a0 0) = some (r1, r2, r3) := by rw [if_neg (show ¬ (false = true) by decide)] at H; exact H
     have H' := Aside0.mk H
     clear H
     go_wp2
     go_loopg [5] kj1 (fun kq v5 w' => ∃ (x5_2 : Int), v5 = .int .i64 x5_2 ∧ Aside0 (postriderref05_Parse.l0 kq a0 x5_2 = some (r1, r2, r3)) ∧ Aside0 (kq ≤ kj1) ∧ Aside0 (w'.heap[gb259]? = some (.cells #[.string (⟨#[]⟩ : ByteArray), .string (⟨#[]⟩ : ByteArray)] 46 (0, 0))) ∧ Aside0 (Below w.heap.size w w'))
     case atStart => exact ⟨(0), rs, H', ⟨Nat.le_refl _⟩, ⟨bk BK259.out⟩, ⟨bl⟩⟩
     case round =>
      clear H'
      try clear c1
      try clear p2
      try clear c4
      try clear c4b0
      try clear c4b1
      try clear c5
      try clear c5b0
      try clear c5b1
      try clear p6
      try clear q6
      try clear hx6
      try clear qi6
      try clear c8
      try clear c10
      try clear c10b0
      try clear c10b1
      try clear c11
      try clear c11b0
      try clear c11b1
      try clear hcz12_0
      try clear hcz12_1
      try clear hcz13_0
      try clear hcz13_1
      try clear hfz12_0
      try clear hfz12_1
      try clear hfz13_0
      try clear hfz13_1
      try clear p2
      try clear p6
      try clear q6
      obtain ⟨x5_2, rfl, HA, HK2, BK259, HB⟩ := hrel
      cases gk with
      | zero => exact absurd HA.out (by simp [postriderref05_Parse.l0])
      | succ k2 =>
       have H := HA.out
       clear HA
       simp only [postriderref05_Parse.l0] at H
       by_cases c14 : x5_2 < (a0.size : Int)
       ·rw [if_pos c14] at H
        have c14b0 : decide (x5_2 < (a0.size : Int)) = true := decide_eq_true c14
        clear c14
        by_cases c15 : 0 ≤ x5_2
        rotate_left
        ·rw [if_neg c15] at H
         exact ab H
        rw [if_pos c15] at H
        have c15b0 : decide (0 ≤ x5_2) = true := decide_eq_true c15
        clear c15
        by_cases c17 : (bt a0 x5_2) = 64
        ·rw [if_pos c17] at H
         have c17b0 : ((bt a0 x5_2) == 64) = true := beq_iff_eq.mpr c17
         have c17b1 : ((bt a0 x5_2) != 64) = false := bne_eq_false_iff_eq.mpr c17
         clear c17
         have c18b0 := eq_true (od : 0 ≤ x5_2)
         by_cases c19 : x5_2 ≤ (a0.size : Int)
         rotate_left
         ·rw [if_neg c19] at H
          exact ab H
         rw [if_pos c19] at H
         have c19b0 := eq_true c19
         have c19b1 : decide (x5_2 ≤ (a0.size : Int)) = true := decide_eq_true c19
         clear c19
         obtain ⟨t263, A200, H⟩ := Option.bind_eq_some_iff.mp H
         replace H : (if t263 = true then (postriderref05_Parse.j2 k2 a0 (a0.extract 0 (x5_2 : Int).toNat) x5_2) else (some ((⟨#[]⟩ : ByteArray), (⟨#[]⟩ : ByteArray), 5))) = some (r1, r2, r3) := H
         have A20 := Aside0.mk A200
         clear A200
         by_cases c21 : t263 = true
         ·subst c21
          replace H : (postriderref05_Parse.j2 k2 a0 (a0.extract 0 (x5_2 : Int).toNat) x5_2) = some (r1, r2, r3) := by rw [if_pos rfl] at H; exact H
          have H' := Aside0.mk H
          clear H
          have p16 : 0 ≤ (x5_2 : Int) := od
          have q16 : x5_2 < (a0.size : Int) := od
          have hx16 := bt_at a0 x5_2
          replace p16 := eq_true p16
          replace q16 := eq_true q16
          go_wp2_with (first | ((with_reducible refine gate_callee (f := 83) rfl ?_); refine goesL_ (some 49) rfl rfl Tryz.func83 kf rfl #[.string (a0.extract 0 (x5_2 : Int).toNat)] rfl ml ?_; (with_reducible refine (postriderref04_DotAtom.calls k2 (a0.extract 0 (x5_2 : Int).toNat) true _ A20.out).mono ?_); rintro e w' ⟨rfl, ⟨nd, rfl⟩⟩; refine ⟨_, rfl, ?_⟩))
          go_meet
          case rel => exact ⟨_, (a0.extract 0 (x5_2 : Int).toNat), (x5_2), ((⟨#[]⟩ : ByteArray)), ((⟨#[]⟩ : ByteArray)), rs, rs, H', ⟨by have := HJ1.out; have := HK2.out; first | omega | exact Nat.le_refl _⟩, ⟨bk BK259.out⟩, ⟨bl⟩⟩
         ·replace c21 := Bool.eq_false_iff.mpr c21
          subst c21
          replace H : (some ((⟨#[]⟩ : ByteArray), (⟨#[]⟩ : ByteArray), 5)) = some (r1, r2, r3) := by rw [if_neg (show ¬ (false = true) by decide)] at H; exact H
          simp only [Option.some.injEq, Prod.mk.injEq] at H
          obtain ⟨rfl, rfl, rfl⟩ := H
          have p16 : 0 ≤ (x5_2 : Int) := od
          have q16 : x5_2 < (a0.size : Int) := od
          have hx16 := bt_at a0 x5_2
          replace p16 := eq_true p16
          replace q16 := eq_true q16
          go_wp2_with (first | ((with_reducible refine gate_callee (f := 83) rfl ?_); refine goesL_ (some 49) rfl rfl Tryz.func83 kf rfl #[.string (a0.extract 0 (x5_2 : Int).toNat)] rfl ml ?_; (with_reducible refine (postriderref04_DotAtom.calls k2 (a0.extract 0 (x5_2 : Int).toNat) false _ A20.out).mono ?_); rintro e w' ⟨rfl, ⟨nd, rfl⟩⟩; refine ⟨_, rfl, ?_⟩; (try (rw [drewN_self wr]; generalize hq_ : World.drewN wr _ = wr; have n0_ : Aside0 (wr.heap[gb259]? = some (.cells #[.string (⟨#[]⟩ : ByteArray), .string (⟨#[]⟩ : ByteArray)] 46 (0, 0))) := ⟨by rw [← hq_]; exact (bk BK259.out)⟩; have n1_ : Aside0 (Below w.heap.size w wr) := ⟨by rw [← hq_]; exact bl⟩; clear BK259 HB hq_; have BK259 := n0_; have HB := n1_; clear n0_ n1_)); have hcz22_0 := cz BK259.out 0 (.string (⟨#[]⟩ : ByteArray)); have hcz22_1 := cz BK259.out 1 (.string (⟨#[]⟩ : ByteArray)); have hfz22_0 := blk_frozen BK259.out 0; have hfz22_1 := blk_frozen BK259.out 1))
          refine bodyPost_ret (results_ct rfl _ _ gb259 46 #[.string (⟨#[]⟩ : ByteArray), .string (⟨#[]⟩ : ByteArray)] (0, 0) _ rfl (by (with_reducible repeat (first | refine blk_drewN ?_ _ | refine blk_drew ?_ | refine blk_alloc ?_ _)); refine blk_put (cs := #[.string (⟨#[]⟩ : ByteArray), .string (⟨#[]⟩ : ByteArray)]) ?_ 1 _ rfl; (with_reducible repeat (first | refine blk_drewN ?_ _ | refine blk_drew ?_ | refine blk_alloc ?_ _)); refine blk_put (cs := #[.string (⟨#[]⟩ : ByteArray), .string (⟨#[]⟩ : ByteArray)]) ?_ 0 _ rfl; (with_reducible repeat (first | refine blk_drewN ?_ _ | refine blk_drew ?_ | refine blk_alloc ?_ _)); exact BK259.out) Tryz.underlying46 rfl kf) rfl ?_
          exact ⟨rf, bl⟩
        ·rw [if_neg c17] at H
         have c17b0 : ((bt a0 x5_2) == 64) = false := beq_eq_false_iff_ne.mpr c17
         have c17b1 : ((bt a0 x5_2) != 64) = true := bne_iff_ne.mpr c17
         have H' := Aside0.mk H
         clear H
         have p16 : 0 ≤ (x5_2 : Int) := od
         have q16 : x5_2 < (a0.size : Int) := od
         have hx16 := bt_at a0 x5_2
         replace p16 := eq_true p16
         replace q16 := eq_true q16
         go_wp2
         go_roundg k2
         case measure => have := HJ1.out; have := HK2.out; omega
         case rel => exact ⟨(wrap64 (x5_2 + 1)), rs, H', ⟨by have := HJ1.out; have := HK2.out; omega⟩, ⟨bk BK259.out⟩, ⟨bl⟩⟩
       ·rw [if_neg c14] at H
        have c14b0 : decide (x5_2 < (a0.size : Int)) = false := decide_eq_false c14
        clear c14
        by_cases c23 : 0 ≤ x5_2
        rotate_left
        ·rw [if_neg c23] at H
         exact ab H
        rw [if_pos c23] at H
        have c23b0 := eq_true c23
        have c23b1 : decide (0 ≤ x5_2) = true := decide_eq_true c23
        clear c23
        by_cases c24 : x5_2 ≤ (a0.size : Int)
        rotate_left
        ·rw [if_neg c24] at H
         exact ab H
        rw [if_pos c24] at H
        have c24b0 := eq_true c24
        have c24b1 : decide (x5_2 ≤ (a0.size : Int)) = true := decide_eq_true c24
        clear c24
        obtain ⟨t264, A250, H⟩ := Option.bind_eq_some_iff.mp H
        replace H : (if t264 = true then (postriderref05_Parse.j2 k2 a0 (a0.extract 0 (x5_2 : Int).toNat) x5_2) else (some ((⟨#[]⟩ : ByteArray), (⟨#[]⟩ : ByteArray), 5))) = some (r1, r2, r3) := H
        have A25 := Aside0.mk A250
        clear A250
        by_cases c26 : t264 = true
        ·subst c26
         replace H : (postriderref05_Parse.j2 k2 a0 (a0.extract 0 (x5_2 : Int).toNat) x5_2) = some (r1, r2, r3) := by rw [if_pos rfl] at H; exact H
         have H' := Aside0.mk H
         clear H
         go_wp2_with (first | ((with_reducible refine gate_callee (f := 83) rfl ?_); refine goesL_ (some 49) rfl rfl Tryz.func83 kf rfl #[.string (a0.extract 0 (x5_2 : Int).toNat)] rfl ml ?_; (with_reducible refine (postriderref04_DotAtom.calls k2 (a0.extract 0 (x5_2 : Int).toNat) true _ A25.out).mono ?_); rintro e w' ⟨rfl, ⟨nd, rfl⟩⟩; refine ⟨_, rfl, ?_⟩))
         go_meet
         case rel => exact ⟨_, (a0.extract 0 (x5_2 : Int).toNat), (x5_2), ((⟨#[]⟩ : ByteArray)), ((⟨#[]⟩ : ByteArray)), rs, rs, H', ⟨by have := HJ1.out; have := HK2.out; first | omega | exact Nat.le_refl _⟩, ⟨bk BK259.out⟩, ⟨bl⟩⟩
        ·replace c26 := Bool.eq_false_iff.mpr c26
         subst c26
         replace H : (some ((⟨#[]⟩ : ByteArray), (⟨#[]⟩ : ByteArray), 5)) = some (r1, r2, r3) := by rw [if_neg (show ¬ (false = true) by decide)] at H; exact H
         simp only [Option.some.injEq, Prod.mk.injEq] at H
         obtain ⟨rfl, rfl, rfl⟩ := H
         go_wp2_with (first | ((with_reducible refine gate_callee (f := 83) rfl ?_); refine goesL_ (some 49) rfl rfl Tryz.func83 kf rfl #[.string (a0.extract 0 (x5_2 : Int).toNat)] rfl ml ?_; (with_reducible refine (postriderref04_DotAtom.calls k2 (a0.extract 0 (x5_2 : Int).toNat) false _ A25.out).mono ?_); rintro e w' ⟨rfl, ⟨nd, rfl⟩⟩; refine ⟨_, rfl, ?_⟩; (try (rw [drewN_self wr]; generalize hq_ : World.drewN wr _ = wr; have n0_ : Aside0 (wr.heap[gb259]? = some (.cells #[.string (⟨#[]⟩ : ByteArray), .string (⟨#[]⟩ : ByteArray)] 46 (0, 0))) := ⟨by rw [← hq_]; exact (bk BK259.out)⟩; have n1_ : Aside0 (Below w.heap.size w wr) := ⟨by rw [← hq_]; exact bl⟩; clear BK259 HB hq_; have BK259 := n0_; have HB := n1_; clear n0_ n1_)); have hcz27_0 := cz BK259.out 0 (.string (⟨#[]⟩ : ByteArray)); have hcz27_1 := cz BK259.out 1 (.string (⟨#[]⟩ : ByteArray)); have hfz27_0 := blk_frozen BK259.out 0; have hfz27_1 := blk_frozen BK259.out 1))
         refine bodyPost_ret (results_ct rfl _ _ gb259 46 #[.string (⟨#[]⟩ : ByteArray), .string (⟨#[]⟩ : ByteArray)] (0, 0) _ rfl (by (with_reducible repeat (first | refine blk_drewN ?_ _ | refine blk_drew ?_ | refine blk_alloc ?_ _)); refine blk_put (cs := #[.string (⟨#[]⟩ : ByteArray), .string (⟨#[]⟩ : ByteArray)]) ?_ 1 _ rfl; (with_reducible repeat (first | refine blk_drewN ?_ _ | refine blk_drew ?_ | refine blk_alloc ?_ _)); refine blk_put (cs := #[.string (⟨#[]⟩ : ByteArray), .string (⟨#[]⟩ : ByteArray)]) ?_ 0 _ rfl; (with_reducible repeat (first | refine blk_drewN ?_ _ | refine blk_drew ?_ | refine blk_alloc ?_ _)); exact BK259.out) Tryz.underlying46 rfl kf) rfl ?_
         exact ⟨rf, bl⟩
   case rest =>
    clear HC7
    try clear c1
    try clear p1
    try clear q1
    try clear hx1
    try clear c2
    try clear p2
    try clear c4
    try clear c4b0
    try clear c4b1
    try clear c5
    try clear c5b0
    try clear c5b1
    try clear p6
    try clear q6
    try clear hx6
    try clear qi6
    try clear c8
    try clear c10
    try clear c10b0
    try clear c10b1
    try clear c11
    try clear c11b0
    try clear c11b1
    try clear c14
    try clear c14b0
    try clear c15
    try clear c15b0
    try clear p16
    try clear q16
    try clear hx16
    try clear c17
    try clear c17b0
    try clear c17b1
    try clear c18
    try clear c18b0
    try clear c19
    try clear c19b0
    try clear c19b1
    try clear c21
    try clear c23
    try clear c23b0
    try clear c23b1
    try clear c24
    try clear c24b0
    try clear c24b1
    try clear c26
    try clear hcz12_0
    try clear hcz12_1
    try clear hcz13_0
    try clear hcz13_1
    try clear hcz22_0
    try clear hcz22_1
    try clear hcz27_0
    try clear hcz27_1
    try clear hfz12_0
    try clear hfz12_1
    try clear hfz13_0
    try clear hfz13_1
    try clear hfz22_0
    try clear hfz22_1
    try clear hfz27_0
    try clear hfz27_1
    try clear p16
    try clear p2
    try clear p6
    try clear q16
    try clear q6
    obtain ⟨kq, x4_6, x5_6, x260000_6, x260001_6, rfl, rfl, HA, HJ6, BK259, HB⟩ := hcut
    cases kq with
    | zero => exact absurd HA.out (by simp [postriderref05_Parse.j2])
    | succ kj6 =>
     have H := HA.out
     clear HA
     simp only [postriderref05_Parse.j2] at H
     have HC28 := Aside0.mk H
     clear H
     go_upto_region 14 with (fail)
     go_cut [61] (fun v61 wc => ∃ (kq : Nat) (x61_27 : Bool), v61 = .bool x61_27 ∧ Aside0 (postriderref05_Parse.j3 kq a0 x4_6 x5_6 x61_27 = some (r1, r2, r3)) ∧ Aside0 (kq ≤ kj6) ∧ Aside0 (wc.heap[gb259]? = some (.cells #[.string x260000_6, .string x260001_6] 46 (0, 0))) ∧ Aside0 (Below w.heap.size w wc))
     case first =>
      have H := HC28.out
      clear HC28
      by_cases c29 : x5_6 ≥ (a0.size : Int)
      ·rw [if_pos c29] at H
       have c29b0 : decide ((a0.size : Int) ≤ x5_6) = true := decide_eq_true c29
       clear c29
       (first | rw [c29b0] | (simp only [i64_w, i32_w]; rw [c29b0]) | skip)
       have H' := Aside0.mk H
       clear H
       go_wp2
       go_meet
       case rel => exact ⟨_, (true), rs, H', ⟨by have := HJ1.out; have := HJ6.out; first | omega | exact Nat.le_refl _⟩, ⟨bk BK259.out⟩, ⟨bl⟩⟩
      ·rw [if_neg c29] at H
       have c29b0 : decide ((a0.size : Int) ≤ x5_6) = false := decide_eq_false c29
       clear c29
       (first | rw [c29b0] | (simp only [i64_w, i32_w]; rw [c29b0]) | skip)
       by_cases c30 : 0 ≤ x5_6
       rotate_left
       ·rw [if_neg c30] at H
        exact ab H
       rw [if_pos c30] at H
       have c30b0 : decide (0 ≤ x5_6) = true := decide_eq_true c30
       clear c30
       by_cases c31 : x5_6 < (a0.size : Int)
       rotate_left
       ·rw [if_neg c31] at H
        exact ab H
       rw [if_pos c31] at H
       have c31b0 : decide (x5_6 < (a0.size : Int)) = true := decide_eq_true c31
       clear c31
       have H' := Aside0.mk H
       clear H
       have p32 : 0 ≤ (x5_6 : Int) := od
       have q32 : x5_6 < (a0.size : Int) := od
       have hx32 := bt_at a0 x5_6
       replace p32 := eq_true p32
       replace q32 := eq_true q32
       go_wp2
       go_meet
       case rel => exact ⟨_, (((bt a0 x5_6) != 64)), rs, H', ⟨by have := HJ1.out; have := HJ6.out; first | omega | exact Nat.le_refl _⟩, ⟨bk BK259.out⟩, ⟨bl⟩⟩
     case rest =>
      clear HC28
      try clear c1
      try clear p1
      try clear q1
      try clear hx1
      try clear c2
      try clear p2
      try clear c3
      try clear p3
      try clear q3
      try clear hx3
      try clear c4
      try clear c4b0
      try clear c4b1
      try clear c5
      try clear c5b0
      try clear c5b1
      try clear p6
      try clear q6
      try clear hx6
      try clear qi6
      try clear c8
      try clear c10
      try clear c10b0
      try clear c10b1
      try clear c11
      try clear c11b0
      try clear c11b1
      try clear c14
      try clear c14b0
      try clear c15
      try clear c15b0
      try clear p16
      try clear q16
      try clear hx16
      try clear c17
      try clear c17b0
      try clear c17b1
      try clear c18
      try clear c18b0
      try clear c19
      try clear c19b0
      try clear c19b1
      try clear c21
      try clear c23
      try clear c23b0
      try clear c23b1
      try clear c24
      try clear c24b0
      try clear c24b1
      try clear c26
      try clear c29
      try clear c29b0
      try clear c30
      try clear c30b0
      try clear c31
      try clear c31b0
      try clear p32
      try clear q32
      try clear hx32
      try clear hcz12_0
      try clear hcz12_1
      try clear hcz13_0
      try clear hcz13_1
      try clear hcz22_0
      try clear hcz22_1
      try clear hcz27_0
      try clear hcz27_1
      try clear hfz12_0
      try clear hfz12_1
      try clear hfz13_0
      try clear hfz13_1
      try clear hfz22_0
      try clear hfz22_1
      try clear hfz27_0
      try clear hfz27_1
      try clear p1
      try clear p16
      try clear p2
      try clear p32
      try clear p6
      try clear q1
      try clear q16
      try clear q32
      try clear q6
      obtain ⟨kq, x61_27, rfl, HA, HJ27, BK259, HB⟩ := hcut
      cases kq with
      | zero => exact absurd HA.out (by simp [postriderref05_Parse.j3])
      | succ kj27 =>
       have H := HA.out
       clear HA
       simp only [postriderref05_Parse.j3] at H
       by_cases c33 : x61_27 = true
       ·subst c33
        replace H : (some ((⟨#[]⟩ : ByteArray), (⟨#[]⟩ : ByteArray), 5)) = some (r1, r2, r3) := by rw [if_pos rfl] at H; exact H
        simp only [Option.some.injEq, Prod.mk.injEq] at H
        obtain ⟨rfl, rfl, rfl⟩ := H
        have hcz34_0 := cz BK259.out 0 (.string x260000_6)
        have hcz34_1 := cz BK259.out 1 (.string x260001_6)
        have hfz34_0 := blk_frozen BK259.out 0
        have hfz34_1 := blk_frozen BK259.out 1
        go_wp2
        refine bodyPost_ret (results_ct rfl _ _ gb259 46 #[.string (⟨#[]⟩ : ByteArray), .string (⟨#[]⟩ : ByteArray)] (0, 0) _ rfl (by (with_reducible repeat (first | refine blk_drewN ?_ _ | refine blk_drew ?_ | refine blk_alloc ?_ _)); refine blk_put (cs := #[.string (⟨#[]⟩ : ByteArray), .string x260001_6]) ?_ 1 _ rfl; (with_reducible repeat (first | refine blk_drewN ?_ _ | refine blk_drew ?_ | refine blk_alloc ?_ _)); refine blk_put (cs := #[.string x260000_6, .string x260001_6]) ?_ 0 _ rfl; (with_reducible repeat (first | refine blk_drewN ?_ _ | refine blk_drew ?_ | refine blk_alloc ?_ _)); exact BK259.out) Tryz.underlying46 rfl kf) rfl ?_
        exact ⟨rf, bl⟩
       ·replace c33 := Bool.eq_false_iff.mpr c33
        subst c33
        replace H : (if 0 ≤ (wrap64 (x5_6 + 1)) then (if (wrap64 (x5_6 + 1)) ≤ (a0.size : Int) then ((postriderref05_Domain.f kj27 (a0.extract ((wrap64 (x5_6 + 1)) : Int).toNat a0.size)).bind fun t265 => (if t265 = 5 then (some ((⟨#[]⟩ : ByteArray), (⟨#[]⟩ : ByteArray), 5)) else (if t265 = 3 then (some ((⟨#[]⟩ : ByteArray), (⟨#[]⟩ : ByteArray), 3)) else (if (x4_6.size : Int) > 64 then (some ((⟨#[]⟩ : ByteArray), (⟨#[]⟩ : ByteArray), 3)) else (some (x4_6, a0.extract ((wrap64 (x5_6 + 1)) : Int).toNat a0.size, 0)))))) else (none)) else (none)) = some (r1, r2, r3) := by rw [if_neg (show ¬ (false = true) by decide)] at H; exact H
        obtain ⟨ji35, hji35⟩ : ∃ j_ : Int, (wrap64 (x5_6 + 1)) = j_ := ⟨_, rfl⟩
        replace H : (if 0 ≤ (ji35) then (if (ji35) ≤ (a0.size : Int) then ((postriderref05_Domain.f kj27 (a0.extract ((ji35) : Int).toNat a0.size)).bind fun t265 => (if t265 = 5 then (some ((⟨#[]⟩ : ByteArray), (⟨#[]⟩ : ByteArray), 5)) else (if t265 = 3 then (some ((⟨#[]⟩ : ByteArray), (⟨#[]⟩ : ByteArray), 3)) else (if (x4_6.size : Int) > 64 then (some ((⟨#[]⟩ : ByteArray), (⟨#[]⟩ : ByteArray), 3)) else (some (x4_6, a0.extract ((ji35) : Int).toNat a0.size, 0)))))) else (none)) else (none)) = some (r1, r2, r3) := by first | (rw [hji35] at H; exact H) | (simp only [hji35] at H ⊢; exact H)
        have hji35w : (IntKind.i64.wrap (x5_6 + 1)) = ji35 := (i64_w _).trans hji35
        by_cases c36 : 0 ≤ (ji35)
        rotate_left
        ·rw [if_neg c36] at H
         exact ab H
        rw [if_pos c36] at H
        have c36b0 := eq_true c36
        have c36b1 : decide (0 ≤ (ji35)) = true := decide_eq_true c36
        clear c36
        by_cases c37 : (ji35) ≤ (a0.size : Int)
        rotate_left
        ·rw [if_neg c37] at H
         exact ab H
        rw [if_pos c37] at H
        have c37b0 := eq_true c37
        have c37b1 : decide ((ji35) ≤ (a0.size : Int)) = true := decide_eq_true c37
        clear c37
        obtain ⟨t265, A380, H⟩ := Option.bind_eq_some_iff.mp H
        replace H : (if t265 = 5 then (some ((⟨#[]⟩ : ByteArray), (⟨#[]⟩ : ByteArray), 5)) else (if t265 = 3 then (some ((⟨#[]⟩ : ByteArray), (⟨#[]⟩ : ByteArray), 3)) else (if (x4_6.size : Int) > 64 then (some ((⟨#[]⟩ : ByteArray), (⟨#[]⟩ : ByteArray), 3)) else (some (x4_6, a0.extract ((ji35) : Int).toNat a0.size, 0))))) = some (r1, r2, r3) := H
        have A38 := Aside0.mk A380
        clear A380
        by_cases c39 : t265 = 5
        ·rw [if_pos c39] at H
         have c39b0 : (t265 == 5) = true := beq_iff_eq.mpr c39
         have c39b1 : (t265 != 5) = false := bne_eq_false_iff_eq.mpr c39
         clear c39
         simp only [Option.some.injEq, Prod.mk.injEq] at H
         obtain ⟨rfl, rfl, rfl⟩ := H
         go_wp2_with (first | ((with_reducible refine gate_callee (f := 63) rfl ?_); refine goesL_ (some 67) rfl rfl Tryz.func63 kf rfl #[.string (a0.extract ((ji35) : Int).toNat a0.size)] rfl (by (try simp only [List.map_toArray, List.map_cons, List.map_nil]); first | done | (simp only [hji35]; rfl) | rfl | (simp only [List.length_drop, List.length_take]; rfl)) ?_; (with_reducible refine (postriderref05_Domain.calls kj27 (a0.extract ((ji35) : Int).toNat a0.size) t265 _ A38.out).mono ?_); rintro e w40 ⟨rfl, hb⟩; refine ⟨_, rfl, ?_⟩; replace BK259 := Aside0.mk (kb BK259.out hb); replace HB := Aside0.mk (below_step bl hb); (try clear hb); (try clear hb2); (try clear hk); (try clear hi); have hcz41_0 := cz BK259.out 0 (.string x260000_6); have hcz41_1 := cz BK259.out 1 (.string x260001_6); have hfz41_0 := blk_frozen BK259.out 0; have hfz41_1 := blk_frozen BK259.out 1))
         refine bodyPost_ret (results_ct rfl _ _ gb259 46 #[.string (⟨#[]⟩ : ByteArray), .string (⟨#[]⟩ : ByteArray)] (0, 0) _ rfl (by (with_reducible repeat (first | refine blk_drewN ?_ _ | refine blk_drew ?_ | refine blk_alloc ?_ _)); refine blk_put (cs := #[.string (⟨#[]⟩ : ByteArray), .string x260001_6]) ?_ 1 _ rfl; (with_reducible repeat (first | refine blk_drewN ?_ _ | refine blk_drew ?_ | refine blk_alloc ?_ _)); refine blk_put (cs := #[.string x260000_6, .string x260001_6]) ?_ 0 _ rfl; (with_reducible repeat (first | refine blk_drewN ?_ _ | refine blk_drew ?_ | refine blk_alloc ?_ _)); exact BK259.out) Tryz.underlying46 rfl kf) rfl ?_
         exact ⟨by first | rfl | (simp [bneNil]; done) | (simp [errW_none, errW_some] <;> rfl) | (simp only [← hji35]; first | rfl | (simp [errW_none, errW_some] <;> rfl)) | (simp [*, errW_none, errW_some] <;> rfl), bl⟩
        ·rw [if_neg c39] at H
         have c39b0 : (t265 == 5) = false := beq_eq_false_iff_ne.mpr c39
         have c39b1 : (t265 != 5) = true := bne_iff_ne.mpr c39
         by_cases c42 : t265 = 3
         ·rw [if_pos c42] at H
          have c42b0 : (t265 == 3) = true := beq_iff_eq.mpr c42
          have c42b1 : (t265 != 3) = false := bne_eq_false_iff_eq.mpr c42
          clear c42
          simp only [Option.some.injEq, Prod.mk.injEq] at H
          obtain ⟨rfl, rfl, rfl⟩ := H
          go_wp2_with (first | ((with_reducible refine gate_callee (f := 63) rfl ?_); refine goesL_ (some 67) rfl rfl Tryz.func63 kf rfl #[.string (a0.extract ((ji35) : Int).toNat a0.size)] rfl (by (try simp only [List.map_toArray, List.map_cons, List.map_nil]); first | done | (simp only [hji35]; rfl) | rfl | (simp only [List.length_drop, List.length_take]; rfl)) ?_; (with_reducible refine (postriderref05_Domain.calls kj27 (a0.extract ((ji35) : Int).toNat a0.size) t265 _ A38.out).mono ?_); rintro e w43 ⟨rfl, hb⟩; refine ⟨_, rfl, ?_⟩; replace BK259 := Aside0.mk (kb BK259.out hb); replace HB := Aside0.mk (below_step bl hb); (try clear hb); (try clear hb2); (try clear hk); (try clear hi); have hcz44_0 := cz BK259.out 0 (.string x260000_6); have hcz44_1 := cz BK259.out 1 (.string x260001_6); have hfz44_0 := blk_frozen BK259.out 0; have hfz44_1 := blk_frozen BK259.out 1))
          refine bodyPost_ret (results_ct rfl _ _ gb259 46 #[.string (⟨#[]⟩ : ByteArray), .string (⟨#[]⟩ : ByteArray)] (0, 0) _ rfl (by (with_reducible repeat (first | refine blk_drewN ?_ _ | refine blk_drew ?_ | refine blk_alloc ?_ _)); refine blk_put (cs := #[.string (⟨#[]⟩ : ByteArray), .string x260001_6]) ?_ 1 _ rfl; (with_reducible repeat (first | refine blk_drewN ?_ _ | refine blk_drew ?_ | refine blk_alloc ?_ _)); refine blk_put (cs := #[.string x260000_6, .string x260001_6]) ?_ 0 _ rfl; (with_reducible repeat (first | refine blk_drewN ?_ _ | refine blk_drew ?_ | refine blk_alloc ?_ _)); exact BK259.out) Tryz.underlying46 rfl kf) rfl ?_
          exact ⟨by first | rfl | (simp [bneNil]; done) | (simp [errW_none, errW_some] <;> rfl) | (simp only [← hji35]; first | rfl | (simp [errW_none, errW_some] <;> rfl)) | (simp [*, errW_none, errW_some] <;> rfl), bl⟩
         ·rw [if_neg c42] at H
          have c42b0 : (t265 == 3) = false := beq_eq_false_iff_ne.mpr c42
          have c42b1 : (t265 != 3) = true := bne_iff_ne.mpr c42
          by_cases c45 : (x4_6.size : Int) > 64
          ·rw [if_pos c45] at H
           have c45b0 : decide (64 < (x4_6.size : Int)) = true := decide_eq_true c45
           have c45b1 : decide (64 < x4_6.size) = true := decide_eq_true (by omega)
           clear c45
           simp only [Option.some.injEq, Prod.mk.injEq] at H
           obtain ⟨rfl, rfl, rfl⟩ := H
           go_wp2_with (first | ((with_reducible refine gate_callee (f := 63) rfl ?_); refine goesL_ (some 67) rfl rfl Tryz.func63 kf rfl #[.string (a0.extract ((ji35) : Int).toNat a0.size)] rfl (by (try simp only [List.map_toArray, List.map_cons, List.map_nil]); first | done | (simp only [hji35]; rfl) | rfl | (simp only [List.length_drop, List.length_take]; rfl)) ?_; (with_reducible refine (postriderref05_Domain.calls kj27 (a0.extract ((ji35) : Int).toNat a0.size) t265 _ A38.out).mono ?_); rintro e w46 ⟨rfl, hb⟩; refine ⟨_, rfl, ?_⟩; replace BK259 := Aside0.mk (kb BK259.out hb); replace HB := Aside0.mk (below_step bl hb); (try clear hb); (try clear hb2); (try clear hk); (try clear hi); have hcz47_0 := cz BK259.out 0 (.string x260000_6); have hcz47_1 := cz BK259.out 1 (.string x260001_6); have hfz47_0 := blk_frozen BK259.out 0; have hfz47_1 := blk_frozen BK259.out 1))
           refine bodyPost_ret (results_ct rfl _ _ gb259 46 #[.string (⟨#[]⟩ : ByteArray), .string (⟨#[]⟩ : ByteArray)] (0, 0) _ rfl (by (with_reducible repeat (first | refine blk_drewN ?_ _ | refine blk_drew ?_ | refine blk_alloc ?_ _)); refine blk_put (cs := #[.string (⟨#[]⟩ : ByteArray), .string x260001_6]) ?_ 1 _ rfl; (with_reducible repeat (first | refine blk_drewN ?_ _ | refine blk_drew ?_ | refine blk_alloc ?_ _)); refine blk_put (cs := #[.string x260000_6, .string x260001_6]) ?_ 0 _ rfl; (with_reducible repeat (first | refine blk_drewN ?_ _ | refine blk_drew ?_ | refine blk_alloc ?_ _)); exact BK259.out) Tryz.underlying46 rfl kf) rfl ?_
           exact ⟨by first | rfl | (simp [bneNil]; done) | (simp [errW_none, errW_some] <;> rfl) | (simp only [← hji35]; first | rfl | (simp [errW_none, errW_some] <;> rfl)) | (simp [*, errW_none, errW_some] <;> rfl), bl⟩
          ·rw [if_neg c45] at H
           have c45b0 : decide (64 < (x4_6.size : Int)) = false := decide_eq_false c45
           have c45b1 : decide (64 < x4_6.size) = false := decide_eq_false (by omega)
           clear c45
           have c48b0 := eq_true (od : 0 ≤ (ji35))
           have c49b0 := eq_true (od : (ji35) ≤ (a0.size : Int))
           simp only [Option.some.injEq, Prod.mk.injEq] at H
           obtain ⟨rfl, rfl, rfl⟩ := H
           go_wp2_with (first | ((with_reducible refine gate_callee (f := 63) rfl ?_); refine goesL_ (some 67) rfl rfl Tryz.func63 kf rfl #[.string (a0.extract ((ji35) : Int).toNat a0.size)] rfl (by (try simp only [List.map_toArray, List.map_cons, List.map_nil]); first | done | (simp only [hji35]; rfl) | rfl | (simp only [List.length_drop, List.length_take]; rfl)) ?_; (with_reducible refine (postriderref05_Domain.calls kj27 (a0.extract ((ji35) : Int).toNat a0.size) t265 _ A38.out).mono ?_); rintro e w50 ⟨rfl, hb⟩; refine ⟨_, rfl, ?_⟩; replace BK259 := Aside0.mk (kb BK259.out hb); replace HB := Aside0.mk (below_step bl hb); (try clear hb); (try clear hb2); (try clear hk); (try clear hi); have hcz51_0 := cz BK259.out 0 (.string x260000_6); have hcz51_1 := cz BK259.out 1 (.string x260001_6); have hfz51_0 := blk_frozen BK259.out 0; have hfz51_1 := blk_frozen BK259.out 1))
           refine bodyPost_ret (results_ct rfl _ _ gb259 46 #[.string x4_6, .string (a0.extract ((ji35) : Int).toNat a0.size)] (0, 0) _ rfl (by (with_reducible repeat (first | refine blk_drewN ?_ _ | refine blk_drew ?_ | refine blk_alloc ?_ _)); refine blk_put (cs := #[.string x4_6, .string x260001_6]) ?_ 1 _ rfl; (with_reducible repeat (first | refine blk_drewN ?_ _ | refine blk_drew ?_ | refine blk_alloc ?_ _)); refine blk_put (cs := #[.string x260000_6, .string x260001_6]) ?_ 0 _ rfl; (with_reducible repeat (first | refine blk_drewN ?_ _ | refine blk_drew ?_ | refine blk_alloc ?_ _)); exact BK259.out) Tryz.underlying46 rfl kf) rfl ?_
           exact ⟨by first | rfl | (simp [bneNil]; done) | (simp [errW_none, errW_some] <;> rfl) | (simp only [← hji35]; first | rfl | (simp [errW_none, errW_some] <;> rfl)) | (simp [*, errW_none, errW_some] <;> rfl), bl⟩

/-! ### postriderref22_Marks: function 18 -/
def postriderref22_Marks.l0 : Nat → List (S46) → List ByteArray → Int → Option ((List (S46)))
 | 0, _, _, _ => none
 | k + 1, x3, x4, x5 => if x5 < (x4.length : Int) then (if 0 ≤ x5 then ((postriderref05_Parse.f k (rdOf ByteArray.empty x4 x5)).bind fun bt271 => (if bt271.2.2 = 0 then ((postriderref05_Normal.f k bt271.1 bt271.2.1).bind fun bt275 => (if x3.length < 4398046511104 then (postriderref22_Marks.l0 k (x3 ++ [(⟨bt275.1, bt275.2⟩ : S46)]) x4 (wrap64 (x5 + 1))) else (none))) else (postriderref22_Marks.l0 k x3 x4 (wrap64 (x5 + 1))))) else (none)) else (some x3)
def postriderref22_Marks.f (k : Nat) (l0_0 : List (S79)) (a0_1 : ByteArray) (a0_2 : Bool) : Option ((List (S46))) := (postriderref07_Find.f k l0_0 a0_1 a0_2 (⟨#[100, 101, 108, 105, 118, 101, 114, 101, 100, 45, 116, 111]⟩ : ByteArray)).bind fun t267 => (postriderref22_Marks.l0 k ([] : List (S46)) t267 0)
theorem postriderref22_Marks.mono_l : ∀ k, (∀ y0 y1 y2, LeO (postriderref22_Marks.l0 k y0 y1 y2) (postriderref22_Marks.l0 (k + 1) y0 y1 y2))
 | 0 => fun _ _ _ r h => by simp [postriderref22_Marks.l0] at h
 | k + 1 => by
  have ih0 := postriderref22_Marks.mono_l k
  ·intro y0 y1 y2
   unfold postriderref22_Marks.l0
   repeat' first
   | (with_reducible first | exact ih0 _ _ _ | exact postriderref05_Normal.mono _ _ _ | exact postriderref05_Parse.mono _ _ | exact postriderref07_Find.mono _ _ _ _ _ | exact LeO.refl _ | exact LeO.none _ | refine LeO.ite ?_ ?_ | refine LeO.bind ?_ (fun _ => ?_))
theorem postriderref22_Marks.mono : ∀ a0 a1 a2 k, LeO (postriderref22_Marks.f k a0 a1 a2) (postriderref22_Marks.f (k + 1) a0 a1 a2) := by
 intro a0 a1 a2 k
 have ih0 := postriderref22_Marks.mono_l k
 unfold postriderref22_Marks.f
 repeat' first
   | (with_reducible first | exact ih0 _ _ _ | exact postriderref05_Normal.mono _ _ _ | exact postriderref05_Parse.mono _ _ | exact postriderref07_Find.mono _ _ _ _ _ | exact LeO.refl _ | exact LeO.none _ | refine LeO.ite ?_ ?_ | refine LeO.bind ?_ (fun _ => ?_))
theorem postriderref22_Marks.calls (k : Nat) (A0_0 : Option Addr) (c0_0 : Nat) (l0_0 : List (S79)) (a0_1 : ByteArray) (a0_2 : Bool) (r : List (S46)) (w : World) (hr0_0 : Kd.C k79 w A0_0 l0_0.length l0_0) (hc0_0 : l0_0.length ≤ c0_0) (h : postriderref22_Marks.f k l0_0 a0_1 a0_2 = some r) :
  Calls Tryz.prog 18 #[.agg #[.slice A0_0 l0_0.length c0_0, .string a0_1, .bool a0_2]] w fun e w' => ∃ v0_ : Value, e = .returned (v0_) ∧ Kd.R k46 46 w' w.heap.size (fun _ => True) v0_ r ∧ Below w.heap.size w w' := by
 have hu30 := Tryz.underlying30
 have hu46 := Tryz.underlying46
 have HR0_0 := Aside0.mk hr0_0
 have HC0_0 := Aside0.mk hc0_0
 clear hr0_0 hc0_0
 have HB := Aside0.mk (Below.refl w.heap.size w)
 have H : ((postriderref07_Find.f k l0_0 a0_1 a0_2 (⟨#[100, 101, 108, 105, 118, 101, 114, 101, 100, 45, 116, 111]⟩ : ByteArray)).bind fun t267 => (postriderref22_Marks.l0 k ([] : List (S46)) t267 0)) = some r := h
 clear h
 obtain ⟨t267, A20, H⟩ := Option.bind_eq_some_iff.mp H
 replace H : (postriderref22_Marks.l0 k ([] : List (S46)) t267 0) = some r := H
 have A2 := Aside0.mk A20
 clear A20
 have H' := Aside0.mk H
 clear H
 go_enter Tryz.func18, Tryz.ntmps18
 go_wp2_with (first | ((with_reducible refine gate_dst (N := 1) rfl ?_); refine box_event ?hg (N := 1) ?hd (cs := #[.slice A0_0 l0_0.length c0_0, .string a0_1, .bool a0_2]) (t := 30) ?hr ?_; (case hd => rfl); (case hg => rfl); (case hr => first | (go_simp; done) | (go_simp; rfl)); intro gb266 hg w3 hbox hb; have BK266 := Aside0.mk (hbox); have GW266 := Aside0.mk (gz hg : w.heap.size ≤ gb266); have GE266 := Aside0.mk (gz hg : w.heap.size ≤ gb266); replace HB := Aside0.mk (below_step bl hb); clear hb hbox hg; have hcz4_0 := cz BK266.out 0 (.slice A0_0 l0_0.length c0_0); have hcz4_1 := cz BK266.out 1 (.string a0_1); have hcz4_2 := cz BK266.out 2 (.bool a0_2); have hfz4_0 := blk_frozen BK266.out 0; have hfz4_1 := blk_frozen BK266.out 1; have hfz4_2 := blk_frozen BK266.out 2) | ((with_reducible refine gate_callee (f := 43) rfl ?_); refine goesL_ (some 9) rfl rfl Tryz.func43 kf rfl #[.agg #[.slice A0_0 l0_0.length c0_0, .string a0_1, .bool a0_2], .string (⟨#[100, 101, 108, 105, 118, 101, 114, 101, 100, 45, 116, 111]⟩ : ByteArray)] rfl ml ?_; (with_reducible refine (postriderref07_Find.calls k _ _ l0_0 a0_1 a0_2 (⟨#[100, 101, 108, 105, 118, 101, 114, 101, 100, 45, 116, 111]⟩ : ByteArray) t267 _ ?side1 ?side2 A2.out).mono ?_); (case side1 => repeat (first | exact (Kd.C_below HR0_0.out HB.out) | (with_reducible refine Kd.C_alloc ?_ _) | (with_reducible refine Kd.C_drewN ?_ _) | (with_reducible refine Kd.C_drew ?_))); (case side2 => exact HC0_0.out); rintro e w5 ⟨v268, rfl, ho0, hb⟩; refine ⟨_, rfl, ?_⟩; have HO269 := Aside0.mk (Kd.R_lower ho0 (below_size bl)); replace BK266 := Aside0.mk (kb BK266.out hb); replace HB := Aside0.mk (below_step bl hb); (try clear hb); (try clear hb2); (try clear hk); (try clear hi); (try clear ho0)))
 go_loopg [3, 5] k (fun kq v3 v5 w' => ∃ (x3_1 : List (S46)) (x5_1 : Int), v5 = .int .i64 x5_1 ∧ Aside0 (postriderref22_Marks.l0 kq x3_1 t267 x5_1 = some r) ∧ Aside0 (kq ≤ k) ∧ Aside0 (Kd.R k46 46 w' w.heap.size (fun _ => True) v3 x3_1) ∧ Aside0 (Kd.R Kd.string 9 w' w.heap.size (fun _ => True) v268 t267) ∧ Aside0 (w'.heap[gb266]? = some (.cells #[(.slice A0_0 l0_0.length c0_0), .string a0_1, .bool a0_2] 30 (0, 0))) ∧ Aside0 (Below w.heap.size w w'))
 case atStart => exact ⟨(([] : List (S46))), (0), rs, H', ⟨Nat.le_refl _⟩, ⟨by first | exact Kd.R_nil _ _ _ _ _ | exact Kd.N_nil _ _ _ _ _ | exact Kd.V_nil _ _ _ _ _ | exact Kd.Q_nil _ _ _ _ _ | exact Kd.S_nil _ _ _ _ _⟩, ⟨kr HO269.out⟩, ⟨bk BK266.out⟩, ⟨bl⟩⟩
 case round =>
  clear H'
  try clear c1
  try clear p2
  try clear c4
  try clear hcz4_0
  try clear hcz4_1
  try clear hcz4_2
  try clear hfz4_0
  try clear hfz4_1
  try clear hfz4_2
  obtain ⟨x3_1, x5_1, rfl, HA, HK1, HO_3, HO_4, BK266, HB⟩ := hrel
  cases gk with
  | zero => exact absurd HA.out (by simp [postriderref22_Marks.l0])
  | succ k1 =>
   have H := HA.out
   clear HA
   simp only [postriderref22_Marks.l0] at H
   by_cases c6 : x5_1 < (t267.length : Int)
   ·rw [if_pos c6] at H
    have c6b0 : decide (x5_1 < (t267.length : Int)) = true := decide_eq_true c6
    clear c6
    by_cases c7 : 0 ≤ x5_1
    rotate_left
    ·rw [if_neg c7] at H
     exact ab H
    rw [if_pos c7] at H
    have c7b0 : decide (0 ≤ x5_1) = true := decide_eq_true c7
    clear c7
    obtain ⟨⟨t271, t272, t273⟩, A80, H⟩ := Option.bind_eq_some_iff.mp H
    replace H : (if t273 = 0 then ((postriderref05_Normal.f k1 t271 t272).bind fun bt275 => (if x3_1.length < 4398046511104 then (postriderref22_Marks.l0 k1 (x3_1 ++ [(⟨bt275.1, bt275.2⟩ : S46)]) t267 (wrap64 (x5_1 + 1))) else (none))) else (postriderref22_Marks.l0 k1 x3_1 t267 (wrap64 (x5_1 + 1)))) = some r := H
    have A8 := Aside0.mk A80
    clear A80
    by_cases c9 : t273 = 0
    ·rw [if_pos c9] at H
     have c9b0 : (t273 == 0) = true := beq_iff_eq.mpr c9
     have c9b1 : (t273 != 0) = false := bne_eq_false_iff_eq.mpr c9
     clear c9
     obtain ⟨⟨t275, t276⟩, A100, H⟩ := Option.bind_eq_some_iff.mp H
     replace H : (if x3_1.length < 4398046511104 then (postriderref22_Marks.l0 k1 (x3_1 ++ [(⟨t275, t276⟩ : S46)]) t267 (wrap64 (x5_1 + 1))) else (none)) = some r := H
     have A10 := Aside0.mk A100
     clear A100
     by_cases c11 : x3_1.length < 4398046511104
     rotate_left
     ·rw [if_neg c11] at H
      exact ab H
     rw [if_pos c11] at H
     have LMc11 := Aside0.mk c11
     clear c11
     obtain ⟨y277, hy277⟩ : ∃ y_ : List (S46), y_ = (x3_1 ++ [(⟨t275, t276⟩ : S46)]) := ⟨_, rfl⟩
     replace H : (postriderref22_Marks.l0 k1 y277 t267 (wrap64 (x5_1 + 1))) = some r := by first | (rw [hy277]; with_reducible exact H) | (have H2_ := (Option.bind_some _ _).symm.trans H; rw [hy277]; with_reducible exact H2_) | (have H2_ := (Option.bind_some _ _).symm.trans H; with_reducible exact H2_) | with_reducible exact H | (rw [hy277]; exact H) | exact H
     have Ny277 := Aside0.mk hy277
     clear hy277
     have H' := Aside0.mk H
     clear H
     obtain ⟨Ao12, co12, eo12⟩ := Kd.R_slice HO_4.out
     subst eo12
     have p270 : 0 ≤ (x5_1 : Int) := od
     have q270 : x5_1 < (t267.length : Int) := od
     obtain ⟨ad270, e270, hx270_0⟩ := Kd.at_string (Kd.R_reads' HO_4.out).2.2 x5_1 p270 q270
     cases e270
     replace p270 := eq_true p270
     replace q270 := eq_true q270
     go_wp2_with (first | ((with_reducible refine gate_callee (f := 46) rfl ?_); refine goesL_ (some 21) rfl rfl Tryz.func46 kf rfl #[.string (rdOf ByteArray.empty t267 x5_1)] rfl ml ?_; (with_reducible refine (postriderref05_Parse.calls k1 (rdOf ByteArray.empty t267 x5_1) t271 t272 t273 _ A8.out).mono ?_); rintro e w13 ⟨rfl, hb⟩; refine ⟨_, rfl, ?_⟩; replace HO_3 := Aside0.mk (Kd.R_below (kr HO_3.out) hb); replace HO_4 := Aside0.mk (Kd.R_below (kr HO_4.out) hb); replace BK266 := Aside0.mk (kb BK266.out hb); replace HB := Aside0.mk (below_step bl hb); (try clear hb); (try clear hb2); (try clear hk); (try clear hi)) | ((with_reducible refine gate_dst (N := 6) rfl ?_); refine box_event ?hg (N := 6) ?hd (cs := #[.string (⟨#[]⟩ : ByteArray), .string (⟨#[]⟩ : ByteArray)]) (t := 46) ?hr ?_; (case hd => rfl); (case hg => rfl); (case hr => first | (go_simp; done) | (go_simp; rfl)); intro gb274 hg w14 hbox hb; replace HO_3 := Aside0.mk (Kd.R_below (Kd.R_elderB (kr HO_3.out) gb274 (Nat.le_of_eq hg.symm)) hb); replace HO_4 := Aside0.mk (Kd.R_below (kr HO_4.out) hb); have BK274 := Aside0.mk (hbox); have GW274 := Aside0.mk (gz hg : w.heap.size ≤ gb274); have GE274 := Aside0.mk (gz hg : w.heap.size ≤ gb274); replace HB := Aside0.mk (below_step bl hb); have NB266_274 := Aside0.mk (nl hg BK266.out : gb266 ≠ gb274); have NB274_266 := Aside0.mk (ng hg BK266.out : gb274 ≠ gb266); replace BK266 := Aside0.mk (kb BK266.out hb); clear hb hbox hg; have hnb15 := NB274_266.out; have hnc15 := NB266_274.out; have hcz16_0 := cz BK274.out 0 (.string (⟨#[]⟩ : ByteArray)); have hcz16_1 := cz BK274.out 1 (.string (⟨#[]⟩ : ByteArray)); have hfz16_0 := blk_frozen BK274.out 0; have hfz16_1 := blk_frozen BK274.out 1) | ((with_reducible refine gate_callee (f := 41) rfl ?_); refine goesL_ (some 28) rfl rfl Tryz.func41 kf rfl #[.agg #[.string t271, .string t272]] rfl ml ?_; (with_reducible refine (postriderref05_Normal.calls k1 t271 t272 t275 t276 _ A10.out).mono ?_); rintro e w17 ⟨rfl, hb⟩; refine ⟨_, rfl, ?_⟩; replace HO_3 := Aside0.mk (Kd.R_below (by (with_reducible repeat (first | apply Kd.R_alloc | apply Kd.R_drewN | apply Kd.R_drew)); exact (Kd.R_mono (Kd.R_far (p := ⟨gb274, 1, none⟩) (Kd.R_far (p := ⟨gb274, 0, none⟩) (Kd.R_mono HO_3.out (fun k_ hk => (⟨hk, hk.2⟩ : _ ∧ k_ ≠ gb274))) (fun _ hk => hk.2) (.string t271)) (fun _ hk => hk.2) (.string t272)) (fun _ h_ => h_.1))) hb); replace HO_4 := Aside0.mk (Kd.R_below (by (with_reducible repeat (first | apply Kd.R_alloc | apply Kd.R_drewN | apply Kd.R_drew)); exact (Kd.R_mono (Kd.R_far (p := ⟨gb274, 1, none⟩) (Kd.R_far (p := ⟨gb274, 0, none⟩) (Kd.R_types HO_4.out BK274.out (by decide)) (fun _ hk => hk.2) (.string t271)) (fun _ hk => hk.2) (.string t272)) (fun _ h_ => h_.1))) hb); replace BK266 := Aside0.mk (kb BK266.out hb); replace BK274 := Aside0.mk (blk_below (g := gb274) (o := .cells #[.string t271, .string t272] 46 (0, 0)) (by (with_reducible repeat (first | refine blk_drewN ?_ _ | refine blk_drew ?_ | refine blk_alloc ?_ _)); refine blk_put (cs := #[.string t271, .string (⟨#[]⟩ : ByteArray)]) ?_ 1 _ rfl; (with_reducible repeat (first | refine blk_drewN ?_ _ | refine blk_drew ?_ | refine blk_alloc ?_ _)); refine blk_put (cs := #[.string (⟨#[]⟩ : ByteArray), .string (⟨#[]⟩ : ByteArray)]) ?_ 0 _ rfl; (with_reducible repeat (first | refine blk_drewN ?_ _ | refine blk_drew ?_ | refine blk_alloc ?_ _)); exact BK274.out) hb); replace HB := Aside0.mk (below_step bl hb); (try clear hb); (try clear hb2); (try clear hk); (try clear hi)) | ((with_reducible refine gate_builtin (b := .append) (xs := #[.tmp 26, .tmp 29]) rfl ?_); at_builtin; refine Kd.R_append k46 (w0 := w) w.heap.size rfl (.tmp 26) (.tmp 29) 35 46 (.agg #[(.string ⟨#[]⟩), (.string ⟨#[]⟩)]) 32 rfl Tryz.underlying35 info46 rfl (by decide) (by omega) u3 x3_1 (⟨t275, t276⟩ : S46) [.string t275, .string t276] (fun k_ => k_ ≠ gb274) (fun _ => False) rfl rfl ?aP (fun _ hk => hk.elim) ?aF ?aO ?aB ?aS ?aL ?_; (case aP => exact k46_mkM _ _ _ (⟨t275, t276⟩ : S46)); (case aB => exact bl); (case aF => exact (fun k_ hk => Kd.freshB (g := gb274) (o := .cells #[.string t271, .string t272] 46 (0, 0)) (bk BK274.out) k_ hk)); (case aO => exact (by (with_reducible repeat (first | apply Kd.R_alloc | apply Kd.R_drewN | apply Kd.R_drew)); exact Kd.R_mono HO_3.out (fun _ hk => hk.2))); (case aS => exact (below_size bl)); (case aL => have := LMc11.out; omega); intro v278 w18 ho hb hg hat; rw [← Ny277.out] at ho; replace HO_4 := Aside0.mk (Kd.R_over' (kr HO_4.out) (Kd.R_typed (kr HO_3.out)) (by decide) hg); replace BK266 := Aside0.mk (blk_grown (g := gb266) (o := .cells #[.slice A0_0 l0_0.length c0_0, .string a0_1, .bool a0_2] 30 (0, 0)) (bk BK266.out) hg (Kd.R_ne HO_3.out BK266.out (by decide))); replace BK274 := Aside0.mk (blk_grown (g := gb274) (o := .cells #[.string t271, .string t272] 46 (0, 0)) (bk BK274.out) hg (Kd.R_away HO_3.out (fun _ hk => hk.2))); replace HB := Aside0.mk (hb); have HO279 := Aside0.mk (ho); clear HO_3 ho hb hg hat))
     go_roundg k1
     case measure => have := HK1.out; omega
     case rel => exact ⟨(y277), (wrap64 (x5_1 + 1)), rs, H', ⟨by have := HK1.out; omega⟩, ⟨by (with_reducible repeat (first | apply Kd.R_alloc | apply Kd.R_drewN | apply Kd.R_drew)); exact Kd.R_mono HO279.out (fun _ hk => trivial)⟩, ⟨kr HO_4.out⟩, ⟨bk BK266.out⟩, ⟨bl⟩⟩
    ·rw [if_neg c9] at H
     have c9b0 : (t273 == 0) = false := beq_eq_false_iff_ne.mpr c9
     have c9b1 : (t273 != 0) = true := bne_iff_ne.mpr c9
     have H' := Aside0.mk H
     clear H
     obtain ⟨Ao19, co19, eo19⟩ := Kd.R_slice HO_4.out
     subst eo19
     have p270 : 0 ≤ (x5_1 : Int) := od
     have q270 : x5_1 < (t267.length : Int) := od
     obtain ⟨ad270, e270, hx270_0⟩ := Kd.at_string (Kd.R_reads' HO_4.out).2.2 x5_1 p270 q270
     cases e270
     replace p270 := eq_true p270
     replace q270 := eq_true q270
     go_wp2_with (first | ((with_reducible refine gate_callee (f := 46) rfl ?_); refine goesL_ (some 21) rfl rfl Tryz.func46 kf rfl #[.string (rdOf ByteArray.empty t267 x5_1)] rfl ml ?_; (with_reducible refine (postriderref05_Parse.calls k1 (rdOf ByteArray.empty t267 x5_1) t271 t272 t273 _ A8.out).mono ?_); rintro e w20 ⟨rfl, hb⟩; refine ⟨_, rfl, ?_⟩; replace HO_3 := Aside0.mk (Kd.R_below (kr HO_3.out) hb); replace HO_4 := Aside0.mk (Kd.R_below (kr HO_4.out) hb); replace BK266 := Aside0.mk (kb BK266.out hb); replace HB := Aside0.mk (below_step bl hb); (try clear hb); (try clear hb2); (try clear hk); (try clear hi)) | ((with_reducible refine gate_dst (N := 6) rfl ?_); refine box_event ?hg (N := 6) ?hd (cs := #[.string (⟨#[]⟩ : ByteArray), .string (⟨#[]⟩ : ByteArray)]) (t := 46) ?hr ?_; (case hd => rfl); (case hg => rfl); (case hr => first | (go_simp; done) | (go_simp; rfl)); intro gb274 hg w21 hbox hb; replace HO_3 := Aside0.mk (Kd.R_below (Kd.R_elderB (kr HO_3.out) gb274 (Nat.le_of_eq hg.symm)) hb); replace HO_4 := Aside0.mk (Kd.R_below (kr HO_4.out) hb); have BK274 := Aside0.mk (hbox); have GW274 := Aside0.mk (gz hg : w.heap.size ≤ gb274); have GE274 := Aside0.mk (gz hg : w.heap.size ≤ gb274); replace HB := Aside0.mk (below_step bl hb); have NB266_274 := Aside0.mk (nl hg BK266.out : gb266 ≠ gb274); have NB274_266 := Aside0.mk (ng hg BK266.out : gb274 ≠ gb266); replace BK266 := Aside0.mk (kb BK266.out hb); clear hb hbox hg; have hnb22 := NB274_266.out; have hnc22 := NB266_274.out; have hcz23_0 := cz BK274.out 0 (.string (⟨#[]⟩ : ByteArray)); have hcz23_1 := cz BK274.out 1 (.string (⟨#[]⟩ : ByteArray)); have hfz23_0 := blk_frozen BK274.out 0; have hfz23_1 := blk_frozen BK274.out 1))
     go_roundg k1
     case measure => have := HK1.out; omega
     case rel => exact ⟨(x3_1), (wrap64 (x5_1 + 1)), rs, H', ⟨by have := HK1.out; omega⟩, ⟨by (with_reducible repeat (first | apply Kd.R_alloc | apply Kd.R_drewN | apply Kd.R_drew)); exact Kd.R_mono (Kd.R_far (p := ⟨gb274, 1, none⟩) (Kd.R_far (p := ⟨gb274, 0, none⟩) (Kd.R_mono HO_3.out (fun k_ hk => (⟨hk, hk.2⟩ : _ ∧ k_ ≠ gb274))) (fun _ hk => hk.2) (.string t271)) (fun _ hk => hk.2) (.string t272)) (fun _ hk => trivial)⟩, ⟨by (with_reducible repeat (first | apply Kd.R_alloc | apply Kd.R_drewN | apply Kd.R_drew)); exact Kd.R_mono (Kd.R_far (p := ⟨gb274, 1, none⟩) (Kd.R_far (p := ⟨gb274, 0, none⟩) (Kd.R_types HO_4.out BK274.out (by decide)) (fun _ hk => hk.2) (.string t271)) (fun _ hk => hk.2) (.string t272)) (fun _ hk => trivial)⟩, ⟨bk BK266.out⟩, ⟨bl⟩⟩
   ·rw [if_neg c6] at H
    have c6b0 : decide (x5_1 < (t267.length : Int)) = false := decide_eq_false c6
    clear c6
    obtain rfl := Option.some.inj H
    obtain ⟨Ao24, co24, eo24⟩ := Kd.R_slice HO_4.out
    subst eo24
    go_wp2
    go_ret
    exact ⟨_, by first | rfl | (simp [errW_none, errW_some] <;> rfl) | (simp [*, errW_none, errW_some] <;> rfl), kr HO_3.out, bl⟩

end Go.Proofs.YtacjnapgdikhbaaGreatDoor.Q
end
