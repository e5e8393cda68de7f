/- Walks of functions. -/
import Derived.Test.YtacjnapgdikhbaaGreatDoorQx0
import Derived.Test.YtacjnapgdikhbaaGreatDoorQx8
section
namespace Go.Proofs.YtacjnapgdikhbaaGreatDoor.Q
open Go.RowKit Go.Proofs.YtacjnapgdikhbaaGreatDoorW.PrintWords Go.Proofs.YtacjnapgdikhbaaGreatDoorW.PrintLast Go.Proofs.YtacjnapgdikhbaaGreatDoorW.PrintMore
attribute [local go_sem] max2_int min2_int max_two min_two max_three min_three max_four min_four   -- for this text's walks alone
set_option linter.unusedVariables false
set_option linter.unusedSimpArgs false

/-! ### guard_Check: function 11 -/
def guard_Check.l0 : Nat → List (S50) → List (S52) → List (S50) → Int → Int → List (S50) → Int → Option ((List (S50)) × (List (S52)))
 | 0, _, _, _, _, _, _, _ => none
 | k + 1, x4, x5, x17, x18, x19, x204000, x205000 => if x19 < x18 then (if 0 ≤ x19 then (if x19 < (x17.length : Int) then ((guard_Check_1.f k ((rd_T50 x17 x19).f0) ((rd_T50 x17 x19).f1) x205000 x204000).bind fun t207 => (if t207.toList = ([] : List UInt8) then (if x4.length < 4398046511104 then (guard_Check.l0 k (x4 ++ [(⟨(rd_T50 x17 x19).f0, (rd_T50 x17 x19).f1⟩ : S50)]) x5 x17 x18 (wrap64 (x19 + 1)) x204000 x205000) else (none)) else (if x5.length < 2513169434916 then (guard_Check.l0 k x4 (x5 ++ [(⟨(⟨(rd_T50 x17 x19).f0, (rd_T50 x17 x19).f1⟩ : S50), 554, t207⟩ : S52)]) x17 x18 (wrap64 (x19 + 1)) x204000 x205000) else (none)))) else (none)) else (none)) else (some (x4, x5))
def guard_Check.f (k : Nat) (l0_0 : List (S72)) (a0_1 : ByteArray) (a0_2 : Bool) (l1 : List (S50)) : Option ((List (S50)) × (List (S52))) := (guard_Marks.f k l0_0 a0_1 a0_2).bind fun t199 => ((guard_Hops.f l0_0 a0_1 a0_2).bind fun t202 => (guard_Check.l0 k ([] : List (S50)) ([] : List (S52)) l1 (l1.length : Int) 0 t199 t202))
theorem guard_Check.mono_l : ∀ k, (∀ y0 y1 y2 y3 y4 y5 y6, LeO (guard_Check.l0 k y0 y1 y2 y3 y4 y5 y6) (guard_Check.l0 (k + 1) y0 y1 y2 y3 y4 y5 y6))
 | 0 => fun _ _ _ _ _ _ _ r h => by simp [guard_Check.l0] at h
 | k + 1 => by
  have ih0 := guard_Check.mono_l k
  ·intro y0 y1 y2 y3 y4 y5 y6
   unfold guard_Check.l0
   repeat' first
   | (with_reducible exact ih0 _ _ _ _ _ _ _)
   | (with_reducible exact guard_Check_1.mono _ _ _ _ _)
   | (with_reducible exact guard_Marks.mono _ _ _ _)
   | (with_reducible exact LeO.refl _)
   | (with_reducible exact LeO.none _)
   | (with_reducible refine LeO.ite ?_ ?_)
   | (with_reducible refine LeO.bind ?_ (fun _ => ?_))
   | exact ih0 _ _ _ _ _ _ _
   | exact guard_Check_1.mono _ _ _ _ _
   | exact guard_Marks.mono _ _ _ _
   | exact LeO.none _
   | refine LeO.ite ?_ ?_
   | refine LeO.bind ?_ (fun _ => ?_)
theorem guard_Check.mono : ∀ a0 a1 a2 a3 k, LeO (guard_Check.f k a0 a1 a2 a3) (guard_Check.f (k + 1) a0 a1 a2 a3) := by
 intro a0 a1 a2 a3 k
 have ih0 := guard_Check.mono_l k
 unfold guard_Check.f
 repeat' first
   | (with_reducible exact ih0 _ _ _ _ _ _ _)
   | (with_reducible exact guard_Check_1.mono _ _ _ _ _)
   | (with_reducible exact guard_Marks.mono _ _ _ _)
   | (with_reducible exact LeO.refl _)
   | (with_reducible exact LeO.none _)
   | (with_reducible refine LeO.ite ?_ ?_)
   | (with_reducible refine LeO.bind ?_ (fun _ => ?_))
   | exact ih0 _ _ _ _ _ _ _
   | exact guard_Check_1.mono _ _ _ _ _
   | exact guard_Marks.mono _ _ _ _
   | exact LeO.none _
   | refine LeO.ite ?_ ?_
   | refine LeO.bind ?_ (fun _ => ?_)
def guard_Check.T1 : Bool × List (List Nat × List Nat) := (true, [([], []), ([0], [0]), ([], []), ([2, 1], [2]), ([], []), ([], []), ([4, 1, 3, 0, 1, 4, 5], [1, 4]), ([5, 3, 6, 0, 1, 2, 3, 4, 5, 6], [3, 5])])
def guard_Check.B1 : List Nat := [0, 1, 0, 7, 0, 0, 63, 127]
theorem guard_Check.tab1 : rtab .any (opsOf Tryz.f11 1) = guard_Check.T1 := by kernel_rfl
theorem guard_Check.bits1 : waitsOk guard_Check.T1.2 guard_Check.B1 = true := by kernel_rfl
set_option maxHeartbeats 8000000 in
set_option maxRecDepth 100000 in
theorem guard_Check.calls (k : Nat) (A0_0 : Option Addr) (c0_0 : Nat) (l0_0 : List (S72)) (a0_1 : ByteArray) (a0_2 : Bool) (A1 : Option Addr) (c1 : Nat) (l1 : List (S50)) (r1 : List (S50)) (r2 : List (S52)) (w : World) (hr0_0 : Kd.C k72 w A0_0 l0_0.length l0_0) (hc0_0 : l0_0.length ≤ c0_0) (hr1 : Kd.C k50 w A1 l1.length l1) (hc1 : l1.length ≤ c1) (hG : Glob w) (h : guard_Check.f k l0_0 a0_1 a0_2 l1 = some (r1, r2)) :
  Calls Tryz.prog 11 #[.agg #[.slice A0_0 l0_0.length c0_0, .string a0_1, .bool a0_2], .slice A1 l1.length c1] w fun e w' => ∃ v0_ v1_ : Value, e = .returned (.tuple #[v0_, v1_]) ∧ Kd.R k50 50 w' w.heap.size (fun _ => True) v0_ r1 ∧ Kd.R k52 52 w' w.heap.size (fun _ => True) v1_ r2 ∧ Below w.heap.size w w' := by
 have hu24 := Tryz.underlying24
 have hu50 := Tryz.underlying50
 have hu52 := Tryz.underlying52
 have HR0_0 := Aside0.mk hr0_0
 have HC0_0 := Aside0.mk hc0_0
 clear hr0_0 hc0_0
 have HR1 := Aside0.mk hr1
 have HC1 := Aside0.mk hc1
 clear hr1 hc1
 have HB := Aside0.mk (Below.refl w.heap.size w)
 have HG := Aside0.mk hG
 clear hG
 have H : ((guard_Marks.f k l0_0 a0_1 a0_2).bind fun t199 => ((guard_Hops.f l0_0 a0_1 a0_2).bind fun t202 => (guard_Check.l0 k ([] : List (S50)) ([] : List (S52)) l1 (l1.length : Int) 0 t199 t202))) = some (r1, r2) := h
 clear h
 replace H := Option.bind_eq_some_iff.mp H
 obtain ⟨t199, A30, H⟩ := H
 replace H : ((guard_Hops.f l0_0 a0_1 a0_2).bind fun t202 => (guard_Check.l0 k ([] : List (S50)) ([] : List (S52)) l1 (l1.length : Int) 0 t199 t202)) = some (r1, r2) := H
 have A3 := Aside0.mk A30
 clear A30
 replace H := Option.bind_eq_some_iff.mp H
 obtain ⟨t202, A40, H⟩ := H
 replace H : (guard_Check.l0 k ([] : List (S50)) ([] : List (S52)) l1 (l1.length : Int) 0 t199 t202) = some (r1, r2) := H
 have A4 := Aside0.mk A40
 clear A40
 have H' := Aside0.mk H
 clear H
 go_enter Tryz.func11, Tryz.ntmps11
 try go_wp2_with (first | ((with_reducible refine gate_dst (N := 2) rfl ?_); refine box_event ?hg (N := 2) ?hd (cs := #[.slice A0_0 l0_0.length c0_0, .string a0_1, .bool a0_2]) (t := 24) ?hr ?_; (case hd => rfl); (case hg => rfl); (case hr => first | (go_simp; done) | (go_simp; rfl)); intro gb198 hg w5 hbox hb; have n0_ := Aside0.mk (below_step bl hb); have n1_ := Aside0.mk (hbox); have n2_ := Aside0.mk ((by rw [hg]; exact (below_size bl) : w.heap.size ≤ gb198)); have n3_ := Aside0.mk ((by rw [hg]; exact (below_size bl) : w.heap.size ≤ gb198)); clear HB; have HB := n0_; have BK198 := n1_; have GW198 := n2_; have GE198 := n3_; clear n0_ n1_ n2_ n3_; clear hb hbox hg))
 have n0_ := Aside0.mk (blk_drew BK198.out)
 have n1_ := Aside0.mk (below_drew1 HB.out)
 clear BK198
 clear HB
 have BK198 := n0_
 have HB := n1_
 clear n0_ n1_
 refine start_ (n := 8) (S := fun w' => w'.cell? ⟨gb198, 0, none⟩ = some (.slice A0_0 l0_0.length c0_0) ∧ w'.cell? ⟨gb198, 1, none⟩ = some (.string a0_1) ∧ w'.cell? ⟨gb198, 2, none⟩ = some (.bool a0_2)) (ds := []) #[false, false, false, false, false, false, false, false] (by kernel_rfl) rfl rfl ⟨(blk_cell BK198.out 0).trans rfl, (blk_cell BK198.out 1).trans rfl, (blk_cell BK198.out 2).trans rfl⟩ (fun hHeld => ?_); refine with_tabW guard_Check.tab1 guard_Check.bits1 (fun HT_ HW_ => ?_)
 generalize w5.drew = w6 at BK198 HB hHeld ⊢
 refine take_ (i := 0) (N := some 12) (v := ?_) (a' := ?_) #[true, false, false, false, false, false, false, false] rfl rfl (take_ofW HT_.out HW_.out (by kernel_rfl)) (fun _ _ _ h => h) (Or.inl ⟨by rfl, ?_⟩) hHeld ?_ ?_
 rotate_left
 ·rintro w' ⟨s0, s1, s2⟩
  go_simp
  with_reducible rfl
 rotate_left
 ·simp only [Act.put, List.setIfInBounds_toArray, List.set_cons_zero, List.set_cons_succ, i64_w, i32_w]
  rfl
 refine take_ (i := 2) (N := some 14) (v := ?_) (a' := ?_) #[true, false, true, false, false, false, false, false] rfl rfl (take_ofW HT_.out HW_.out (by kernel_rfl)) (fun _ _ _ h => h) (Or.inl ⟨by rfl, ?_⟩) hHeld ?_ ?_
 rotate_left
 ·rintro w' ⟨s0, s1, s2⟩
  go_simp
  with_reducible rfl
 rotate_left
 ·simp only [Act.put, List.setIfInBounds_toArray, List.set_cons_zero, List.set_cons_succ, i64_w, i32_w]
  rfl
 refine join_ (σ := Value × Nat × Nat) 2 #[true, true, true, true, true, true, false, false] (fun s_ => [(13, s_.1), (15, .int .i64 t202), (6, .pointer (some ⟨s_.2.1, 0, none⟩)), (7, .pointer (some ⟨s_.2.2, 0, none⟩))]) (fun s_ w' => (w'.cell? ⟨gb198, 0, none⟩ = some (.slice A0_0 l0_0.length c0_0) ∧ w'.cell? ⟨gb198, 1, none⟩ = some (.string a0_1) ∧ w'.cell? ⟨gb198, 2, none⟩ = some (.bool a0_2)) ∧ (Kd.R k50 50 w' w.heap.size (fun _ => True) s_.1 t199) ∧ (w'.heap[gb198]? = some (.cells #[.slice A0_0 l0_0.length c0_0, .string a0_1, .bool a0_2] 24 (0, 0))) ∧ (w'.heap[s_.2.1]? = some (.cells #[.slice none 0 0] 25 (0, 0))) ∧ (w'.heap[s_.2.2]? = some (.cells #[.int .i64 0] 3 (0, 0))) ∧ (w.heap.size ≤ s_.2.1) ∧ (w.heap.size ≤ s_.2.1) ∧ (gb198 ≠ s_.2.1) ∧ (s_.2.1 ≠ gb198) ∧ (s_.2.2 ≠ s_.2.1) ∧ (s_.2.1 ≠ s_.2.2) ∧ (w.heap.size ≤ s_.2.2) ∧ (w.heap.size ≤ s_.2.2) ∧ (gb198 ≠ s_.2.2) ∧ (s_.2.2 ≠ gb198) ∧ (Below w.heap.size w w')) ?_ ?_
 rotate_left
 ·intro hJ1_3_4_5
  refine join_ (σ := Value × Nat) 3 #[true, true, true, true, true, false, false, false] (fun s_ => [(13, s_.1), (15, .int .i64 t202), (6, .pointer (some ⟨s_.2, 0, none⟩))]) (fun s_ w' => (w'.cell? ⟨gb198, 0, none⟩ = some (.slice A0_0 l0_0.length c0_0) ∧ w'.cell? ⟨gb198, 1, none⟩ = some (.string a0_1) ∧ w'.cell? ⟨gb198, 2, none⟩ = some (.bool a0_2)) ∧ (Kd.R k50 50 w' w.heap.size (fun _ => True) s_.1 t199) ∧ (w'.heap[gb198]? = some (.cells #[.slice A0_0 l0_0.length c0_0, .string a0_1, .bool a0_2] 24 (0, 0))) ∧ (w'.heap[s_.2]? = some (.cells #[.slice none 0 0] 25 (0, 0))) ∧ (w.heap.size ≤ s_.2) ∧ (w.heap.size ≤ s_.2) ∧ (gb198 ≠ s_.2) ∧ (s_.2 ≠ gb198) ∧ (Below w.heap.size w w')) ?_ ?_
  rotate_left
  ·intro hJ1_3_4
   refine join_ (σ := Value × Nat) 3 #[true, true, true, true, false, true, false, false] (fun s_ => [(13, s_.1), (15, .int .i64 t202), (7, .pointer (some ⟨s_.2, 0, none⟩))]) (fun s_ w' => (w'.cell? ⟨gb198, 0, none⟩ = some (.slice A0_0 l0_0.length c0_0) ∧ w'.cell? ⟨gb198, 1, none⟩ = some (.string a0_1) ∧ w'.cell? ⟨gb198, 2, none⟩ = some (.bool a0_2)) ∧ (Kd.R k50 50 w' w.heap.size (fun _ => True) s_.1 t199) ∧ (w'.heap[gb198]? = some (.cells #[.slice A0_0 l0_0.length c0_0, .string a0_1, .bool a0_2] 24 (0, 0))) ∧ (w'.heap[s_.2]? = some (.cells #[.int .i64 0] 3 (0, 0))) ∧ (w.heap.size ≤ s_.2) ∧ (w.heap.size ≤ s_.2) ∧ (gb198 ≠ s_.2) ∧ (s_.2 ≠ gb198) ∧ (Below w.heap.size w w')) ?_ ?_
   rotate_left
   ·intro hJ1_3_5
    refine join_ (σ := Value × Nat × Nat) 3 #[true, true, true, false, true, true, false, false] (fun s_ => [(13, s_.1), (6, .pointer (some ⟨s_.2.1, 0, none⟩)), (7, .pointer (some ⟨s_.2.2, 0, none⟩))]) (fun s_ w' => (w'.cell? ⟨gb198, 0, none⟩ = some (.slice A0_0 l0_0.length c0_0) ∧ w'.cell? ⟨gb198, 1, none⟩ = some (.string a0_1) ∧ w'.cell? ⟨gb198, 2, none⟩ = some (.bool a0_2)) ∧ (Kd.R k50 50 w' w.heap.size (fun _ => True) s_.1 t199) ∧ (w'.heap[gb198]? = some (.cells #[.slice A0_0 l0_0.length c0_0, .string a0_1, .bool a0_2] 24 (0, 0))) ∧ (w'.heap[s_.2.1]? = some (.cells #[.slice none 0 0] 25 (0, 0))) ∧ (w'.heap[s_.2.2]? = some (.cells #[.int .i64 0] 3 (0, 0))) ∧ (w.heap.size ≤ s_.2.1) ∧ (w.heap.size ≤ s_.2.1) ∧ (gb198 ≠ s_.2.1) ∧ (s_.2.1 ≠ gb198) ∧ (s_.2.2 ≠ s_.2.1) ∧ (s_.2.1 ≠ s_.2.2) ∧ (w.heap.size ≤ s_.2.2) ∧ (w.heap.size ≤ s_.2.2) ∧ (gb198 ≠ s_.2.2) ∧ (s_.2.2 ≠ gb198) ∧ (Below w.heap.size w w')) ?_ ?_
    rotate_left
    ·intro hJ1_4_5
     refine join_ (σ := Value) 4 #[true, true, true, true, false, false, false, false] (fun s_ => [(13, s_), (15, .int .i64 t202)]) (fun s_ w' => (w'.cell? ⟨gb198, 0, none⟩ = some (.slice A0_0 l0_0.length c0_0) ∧ w'.cell? ⟨gb198, 1, none⟩ = some (.string a0_1) ∧ w'.cell? ⟨gb198, 2, none⟩ = some (.bool a0_2)) ∧ (Kd.R k50 50 w' w.heap.size (fun _ => True) s_ t199) ∧ (w'.heap[gb198]? = some (.cells #[.slice A0_0 l0_0.length c0_0, .string a0_1, .bool a0_2] 24 (0, 0))) ∧ (Below w.heap.size w w')) ?_ ?_
     rotate_left
     ·intro hJ1_3
      refine join_ (σ := Value × Nat) 4 #[true, true, true, false, true, false, false, false] (fun s_ => [(13, s_.1), (6, .pointer (some ⟨s_.2, 0, none⟩))]) (fun s_ w' => (w'.cell? ⟨gb198, 0, none⟩ = some (.slice A0_0 l0_0.length c0_0) ∧ w'.cell? ⟨gb198, 1, none⟩ = some (.string a0_1) ∧ w'.cell? ⟨gb198, 2, none⟩ = some (.bool a0_2)) ∧ (Kd.R k50 50 w' w.heap.size (fun _ => True) s_.1 t199) ∧ (w'.heap[gb198]? = some (.cells #[.slice A0_0 l0_0.length c0_0, .string a0_1, .bool a0_2] 24 (0, 0))) ∧ (w'.heap[s_.2]? = some (.cells #[.slice none 0 0] 25 (0, 0))) ∧ (w.heap.size ≤ s_.2) ∧ (w.heap.size ≤ s_.2) ∧ (gb198 ≠ s_.2) ∧ (s_.2 ≠ gb198) ∧ (Below w.heap.size w w')) ?_ ?_
      rotate_left
      ·intro hJ1_4
       refine join_ (σ := Value × Nat) 4 #[true, true, true, false, false, true, false, false] (fun s_ => [(13, s_.1), (7, .pointer (some ⟨s_.2, 0, none⟩))]) (fun s_ w' => (w'.cell? ⟨gb198, 0, none⟩ = some (.slice A0_0 l0_0.length c0_0) ∧ w'.cell? ⟨gb198, 1, none⟩ = some (.string a0_1) ∧ w'.cell? ⟨gb198, 2, none⟩ = some (.bool a0_2)) ∧ (Kd.R k50 50 w' w.heap.size (fun _ => True) s_.1 t199) ∧ (w'.heap[gb198]? = some (.cells #[.slice A0_0 l0_0.length c0_0, .string a0_1, .bool a0_2] 24 (0, 0))) ∧ (w'.heap[s_.2]? = some (.cells #[.int .i64 0] 3 (0, 0))) ∧ (w.heap.size ≤ s_.2) ∧ (w.heap.size ≤ s_.2) ∧ (gb198 ≠ s_.2) ∧ (s_.2 ≠ gb198) ∧ (Below w.heap.size w w')) ?_ ?_
       rotate_left
       ·intro hJ1_5
        refine join_ (σ := Nat × Nat) 4 #[true, false, true, false, true, true, false, false] (fun s_ => [(6, .pointer (some ⟨s_.1, 0, none⟩)), (7, .pointer (some ⟨s_.2, 0, none⟩))]) (fun s_ w' => (w'.cell? ⟨gb198, 0, none⟩ = some (.slice A0_0 l0_0.length c0_0) ∧ w'.cell? ⟨gb198, 1, none⟩ = some (.string a0_1) ∧ w'.cell? ⟨gb198, 2, none⟩ = some (.bool a0_2)) ∧ (w'.heap[gb198]? = some (.cells #[.slice A0_0 l0_0.length c0_0, .string a0_1, .bool a0_2] 24 (0, 0))) ∧ (w'.heap[s_.1]? = some (.cells #[.slice none 0 0] 25 (0, 0))) ∧ (w'.heap[s_.2]? = some (.cells #[.int .i64 0] 3 (0, 0))) ∧ (w.heap.size ≤ s_.1) ∧ (w.heap.size ≤ s_.1) ∧ (gb198 ≠ s_.1) ∧ (s_.1 ≠ gb198) ∧ (s_.2 ≠ s_.1) ∧ (s_.1 ≠ s_.2) ∧ (w.heap.size ≤ s_.2) ∧ (w.heap.size ≤ s_.2) ∧ (gb198 ≠ s_.2) ∧ (s_.2 ≠ gb198) ∧ (Below w.heap.size w w')) ?_ ?_
        rotate_left
        ·intro hJ4_5
         refine join_ (σ := Value) 5 #[true, true, true, false, false, false, false, false] (fun s_ => [(13, s_)]) (fun s_ w' => (w'.cell? ⟨gb198, 0, none⟩ = some (.slice A0_0 l0_0.length c0_0) ∧ w'.cell? ⟨gb198, 1, none⟩ = some (.string a0_1) ∧ w'.cell? ⟨gb198, 2, none⟩ = some (.bool a0_2)) ∧ (Kd.R k50 50 w' w.heap.size (fun _ => True) s_ t199) ∧ (w'.heap[gb198]? = some (.cells #[.slice A0_0 l0_0.length c0_0, .string a0_1, .bool a0_2] 24 (0, 0))) ∧ (Below w.heap.size w w')) ?_ ?_
         rotate_left
         ·intro hJ1
          refine join_ (σ := Nat) 5 #[true, false, true, false, true, false, false, false] (fun s_ => [(6, .pointer (some ⟨s_, 0, none⟩))]) (fun s_ w' => (w'.cell? ⟨gb198, 0, none⟩ = some (.slice A0_0 l0_0.length c0_0) ∧ w'.cell? ⟨gb198, 1, none⟩ = some (.string a0_1) ∧ w'.cell? ⟨gb198, 2, none⟩ = some (.bool a0_2)) ∧ (w'.heap[gb198]? = some (.cells #[.slice A0_0 l0_0.length c0_0, .string a0_1, .bool a0_2] 24 (0, 0))) ∧ (w'.heap[s_]? = some (.cells #[.slice none 0 0] 25 (0, 0))) ∧ (w.heap.size ≤ s_) ∧ (w.heap.size ≤ s_) ∧ (gb198 ≠ s_) ∧ (s_ ≠ gb198) ∧ (Below w.heap.size w w')) ?_ ?_
          rotate_left
          ·intro hJ4
           refine join_ (σ := Nat) 5 #[true, false, true, false, false, true, false, false] (fun s_ => [(7, .pointer (some ⟨s_, 0, none⟩))]) (fun s_ w' => (w'.cell? ⟨gb198, 0, none⟩ = some (.slice A0_0 l0_0.length c0_0) ∧ w'.cell? ⟨gb198, 1, none⟩ = some (.string a0_1) ∧ w'.cell? ⟨gb198, 2, none⟩ = some (.bool a0_2)) ∧ (w'.heap[gb198]? = some (.cells #[.slice A0_0 l0_0.length c0_0, .string a0_1, .bool a0_2] 24 (0, 0))) ∧ (w'.heap[s_]? = some (.cells #[.int .i64 0] 3 (0, 0))) ∧ (w.heap.size ≤ s_) ∧ (w.heap.size ≤ s_) ∧ (gb198 ≠ s_) ∧ (s_ ≠ gb198) ∧ (Below w.heap.size w w')) ?_ ?_
           rotate_left
           ·intro hJ5
            refine three_ (i := 1) (j := 4) (k := 5) (Ni := some 13) (Nj := some 6) (Nk := some 7) #[true, true, true, false, false, false, false, false] #[true, false, true, false, true, false, false, false] #[true, false, true, false, false, true, false, false] rfl rfl rfl rfl rfl rfl (three_of HT_.out (by kernel_rfl)) (by decide) (by decide) (by decide) (fun K hK => ?_) (fun K hK => ?_) (fun K hK => ?_)
            ·skip
             refine goes_ Tryz.func17 (by kernel_rfl) rfl #[.agg #[.slice A0_0 l0_0.length c0_0, .string a0_1, .bool a0_2]] (by rfl) rfl rfl ml ?_
             with_reducible refine (guard_Marks.calls k _ _ l0_0 a0_1 a0_2 t199 _ ?side1 ?side2 ?side3 A3.out).mono ?_
             (case side1 => repeat (first | exact (Kd.C_below HR0_0.out HB.out) | (with_reducible refine Kd.C_alloc ?_ _) | (with_reducible refine Kd.C_drewN ?_ _) | (with_reducible refine Kd.C_drew ?_)))
             (case side2 => exact HC0_0.out)
             (case side3 => exact Glob.below HG.out bl)
             rintro e w7 ⟨v200, rfl, ho0, hb⟩
             refine ⟨_, rfl, ?_⟩
             have n0_ := Aside0.mk (Kd.R_lower ho0 (below_size bl))
             have n1_ := Aside0.mk (kb BK198.out hb)
             have n2_ := Aside0.mk (below_step bl hb)
             clear BK198
             clear HB
             have HO201 := n0_
             have BK198 := n1_
             have HB := n2_
             clear n0_ n1_ n2_
             (try clear hb)
             (try clear hb2)
             (try clear hk)
             (try clear hi)
             (try clear ho0)
             refine hK.out _ _ ⟨(blk_cell BK198.out 0).trans rfl, (blk_cell BK198.out 1).trans rfl, (blk_cell BK198.out 2).trans rfl⟩ (fun hHeld => ?_)
             clear hK K
             refine norm_ (a' := ?_) ?_ ?_
             rotate_left
             ·show Act.put _ (some 13) _ = _
              simp only [Act.put, List.setIfInBounds_toArray, List.set_cons_zero, List.set_cons_succ, i64_w, i32_w]
              rfl
             exact norm_ (by first | (simp only [putAll, Act.put, List.setIfInBounds_toArray, List.set_cons_zero, List.set_cons_succ]; done) | (simp only [putAll, Act.put, List.setIfInBounds_toArray, List.set_cons_zero, List.set_cons_succ]; rfl)) (hJ1 (v200) _ ⟨hHeld, (kr HO201.out), (bk BK198.out), bl⟩)
            ·skip
             refine box_step ?hg (N := 6) ?hd (cs := #[.slice none 0 0]) (t := 25) ?hr ?_; (case hd => rfl); (case hg => rfl); (case hr => first | (go_simp; done) | (go_simp; rfl))
             intro gb203 hg w7 hbox hb
             have n0_ := Aside0.mk (kb BK198.out hb)
             have n1_ := Aside0.mk (below_step bl hb)
             have n2_ := Aside0.mk (hbox)
             have n3_ := Aside0.mk ((by rw [hg]; exact (below_size bl) : w.heap.size ≤ gb203))
             have n4_ := Aside0.mk ((by rw [hg]; exact (below_size bl) : w.heap.size ≤ gb203))
             have n5_ := Aside0.mk ((by rw [hg]; exact Nat.ne_of_lt (blk_lt (bk BK198.out)) : gb198 ≠ gb203))
             have n6_ := Aside0.mk ((by rw [hg]; exact Nat.ne_of_gt (blk_lt (bk BK198.out)) : gb203 ≠ gb198))
             clear BK198
             clear HB
             have BK198 := n0_
             have HB := n1_
             have BK203 := n2_
             have GW203 := n3_
             have GE203 := n4_
             have NB198_203 := n5_
             have NB203_198 := n6_
             clear n0_ n1_ n2_ n3_ n4_ n5_ n6_
             clear hb hbox hg
             refine hK.out _ _ ⟨(blk_cell BK198.out 0).trans rfl, (blk_cell BK198.out 1).trans rfl, (blk_cell BK198.out 2).trans rfl⟩ (fun hHeld => ?_)
             clear hK K
             refine norm_ (a' := ?_) ?_ ?_
             rotate_left
             ·show Act.put _ (some 6) _ = _
              simp only [Act.put, List.setIfInBounds_toArray, List.set_cons_zero, List.set_cons_succ, i64_w, i32_w]
              rfl
             exact norm_ (by first | (simp only [putAll, Act.put, List.setIfInBounds_toArray, List.set_cons_zero, List.set_cons_succ]; done) | (simp only [putAll, Act.put, List.setIfInBounds_toArray, List.set_cons_zero, List.set_cons_succ]; rfl)) (hJ4 (gb203) _ ⟨hHeld, (bk BK198.out), (bk BK203.out), GW203.out, GE203.out, NB198_203.out, NB203_198.out, bl⟩)
            ·skip
             refine box_step ?hg (N := 7) ?hd (cs := #[.int .i64 0]) (t := 3) ?hr ?_; (case hd => rfl); (case hg => rfl); (case hr => first | (go_simp; done) | (go_simp; rfl))
             intro gb204 hg w7 hbox hb
             have n0_ := Aside0.mk (kb BK198.out hb)
             have n1_ := Aside0.mk (below_step bl hb)
             have n2_ := Aside0.mk (hbox)
             have n3_ := Aside0.mk ((by rw [hg]; exact (below_size bl) : w.heap.size ≤ gb204))
             have n4_ := Aside0.mk ((by rw [hg]; exact (below_size bl) : w.heap.size ≤ gb204))
             have n5_ := Aside0.mk ((by rw [hg]; exact Nat.ne_of_lt (blk_lt (bk BK198.out)) : gb198 ≠ gb204))
             have n6_ := Aside0.mk ((by rw [hg]; exact Nat.ne_of_gt (blk_lt (bk BK198.out)) : gb204 ≠ gb198))
             clear BK198
             clear HB
             have BK198 := n0_
             have HB := n1_
             have BK204 := n2_
             have GW204 := n3_
             have GE204 := n4_
             have NB198_204 := n5_
             have NB204_198 := n6_
             clear n0_ n1_ n2_ n3_ n4_ n5_ n6_
             clear hb hbox hg
             refine hK.out _ _ ⟨(blk_cell BK198.out 0).trans rfl, (blk_cell BK198.out 1).trans rfl, (blk_cell BK198.out 2).trans rfl⟩ (fun hHeld => ?_)
             clear hK K
             refine norm_ (a' := ?_) ?_ ?_
             rotate_left
             ·show Act.put _ (some 7) _ = _
              simp only [Act.put, List.setIfInBounds_toArray, List.set_cons_zero, List.set_cons_succ, i64_w, i32_w]
              rfl
             exact norm_ (by first | (simp only [putAll, Act.put, List.setIfInBounds_toArray, List.set_cons_zero, List.set_cons_succ]; done) | (simp only [putAll, Act.put, List.setIfInBounds_toArray, List.set_cons_zero, List.set_cons_succ]; rfl)) (hJ5 (gb204) _ ⟨hHeld, (bk BK198.out), (bk BK204.out), GW204.out, GE204.out, NB198_204.out, NB204_198.out, bl⟩)
           ·skip
            rintro gb204 w8 ⟨hS_, h0_, h1_, h2_, h3_, h4_, h5_, h6_⟩
            have n0_ : Aside0 (w8.heap[gb198]? = some (.cells #[.slice A0_0 l0_0.length c0_0, .string a0_1, .bool a0_2] 24 (0, 0))) := ⟨h0_⟩
            have n1_ : Aside0 (w8.heap[gb204]? = some (.cells #[.int .i64 0] 3 (0, 0))) := ⟨h1_⟩
            have n2_ : Aside0 (w.heap.size ≤ gb204) := ⟨h2_⟩
            have n3_ : Aside0 (w.heap.size ≤ gb204) := ⟨h3_⟩
            have n4_ : Aside0 (gb198 ≠ gb204) := ⟨h4_⟩
            have n5_ : Aside0 (gb204 ≠ gb198) := ⟨h5_⟩
            have n6_ : Aside0 (Below w.heap.size w w8) := ⟨h6_⟩
            clear BK198
            clear HB
            clear h0_ h1_ h2_ h3_ h4_ h5_ h6_
            have BK198 := n0_
            have BK204 := n1_
            have GW204 := n2_
            have GE204 := n3_
            have NB198_204 := n4_
            have NB204_198 := n5_
            have HB := n6_
            clear n0_ n1_ n2_ n3_ n4_ n5_ n6_
            have hHeld : w8.cell? ⟨gb198, 0, none⟩ = some (.slice A0_0 l0_0.length c0_0) ∧ w8.cell? ⟨gb198, 1, none⟩ = some (.string a0_1) ∧ w8.cell? ⟨gb198, 2, none⟩ = some (.bool a0_2) := hS_
            refine norm_ (a' := ?_) ?_ ?_
            rotate_left
            ·simp only [putAll, Act.put, List.setIfInBounds_toArray, List.set_cons_zero, List.set_cons_succ]
             rfl
            refine two_ (i := 1) (j := 4) (Ni := some 13) (Nj := some 6) #[true, true, true, false, false, true, false, false] #[true, false, true, false, true, true, false, false] rfl rfl rfl rfl (two_of HT_.out (by kernel_rfl)) (by decide) (by decide) (fun K hK => ?_) (fun K hK => ?_)
            ·skip
             refine goes_ Tryz.func17 (by kernel_rfl) rfl #[.agg #[.slice A0_0 l0_0.length c0_0, .string a0_1, .bool a0_2]] (by rfl) rfl rfl ml ?_
             with_reducible refine (guard_Marks.calls k _ _ l0_0 a0_1 a0_2 t199 _ ?side1 ?side2 ?side3 A3.out).mono ?_
             (case side1 => repeat (first | exact (Kd.C_below HR0_0.out HB.out) | (with_reducible refine Kd.C_alloc ?_ _) | (with_reducible refine Kd.C_drewN ?_ _) | (with_reducible refine Kd.C_drew ?_)))
             (case side2 => exact HC0_0.out)
             (case side3 => exact Glob.below HG.out bl)
             rintro e w9 ⟨v200, rfl, ho0, hb⟩
             refine ⟨_, rfl, ?_⟩
             have n0_ := Aside0.mk (Kd.R_lower ho0 (below_size bl))
             have n1_ := Aside0.mk (kb BK198.out hb)
             have n2_ := Aside0.mk (kb BK204.out hb)
             have n3_ := Aside0.mk (below_step bl hb)
             clear BK198
             clear BK204
             clear HB
             have HO201 := n0_
             have BK198 := n1_
             have BK204 := n2_
             have HB := n3_
             clear n0_ n1_ n2_ n3_
             (try clear hb)
             (try clear hb2)
             (try clear hk)
             (try clear hi)
             (try clear ho0)
             refine hK.out _ _ ⟨(blk_cell BK198.out 0).trans rfl, (blk_cell BK198.out 1).trans rfl, (blk_cell BK198.out 2).trans rfl⟩ (fun hHeld => ?_)
             clear hK K
             refine norm_ (a' := ?_) ?_ ?_
             rotate_left
             ·show Act.put _ (some 13) _ = _
              simp only [Act.put, List.setIfInBounds_toArray, List.set_cons_zero, List.set_cons_succ, i64_w, i32_w]
              rfl
             exact norm_ (by first | (simp only [putAll, Act.put, List.setIfInBounds_toArray, List.set_cons_zero, List.set_cons_succ]; done) | (simp only [putAll, Act.put, List.setIfInBounds_toArray, List.set_cons_zero, List.set_cons_succ]; rfl)) (hJ1_5 (v200, gb204) _ ⟨hHeld, (kr HO201.out), (bk BK198.out), (bk BK204.out), GW204.out, GE204.out, NB198_204.out, NB204_198.out, bl⟩)
            ·skip
             refine box_step ?hg (N := 6) ?hd (cs := #[.slice none 0 0]) (t := 25) ?hr ?_; (case hd => rfl); (case hg => rfl); (case hr => first | (go_simp; done) | (go_simp; rfl))
             intro gb203 hg w9 hbox hb
             have n0_ := Aside0.mk (kb BK198.out hb)
             have n1_ := Aside0.mk (kb BK204.out hb)
             have n2_ := Aside0.mk (below_step bl hb)
             have n3_ := Aside0.mk (hbox)
             have n4_ := Aside0.mk ((by rw [hg]; exact (below_size bl) : w.heap.size ≤ gb203))
             have n5_ := Aside0.mk ((by rw [hg]; exact (below_size bl) : w.heap.size ≤ gb203))
             have n6_ := Aside0.mk ((by rw [hg]; exact Nat.ne_of_lt (blk_lt (bk BK198.out)) : gb198 ≠ gb203))
             have n7_ := Aside0.mk ((by rw [hg]; exact Nat.ne_of_gt (blk_lt (bk BK198.out)) : gb203 ≠ gb198))
             have n8_ := Aside0.mk ((by rw [hg]; exact Nat.ne_of_lt (blk_lt (bk BK204.out)) : gb204 ≠ gb203))
             have n9_ := Aside0.mk ((by rw [hg]; exact Nat.ne_of_gt (blk_lt (bk BK204.out)) : gb203 ≠ gb204))
             clear BK198
             clear BK204
             clear HB
             have BK198 := n0_
             have BK204 := n1_
             have HB := n2_
             have BK203 := n3_
             have GW203 := n4_
             have GE203 := n5_
             have NB198_203 := n6_
             have NB203_198 := n7_
             have NB204_203 := n8_
             have NB203_204 := n9_
             clear n0_ n1_ n2_ n3_ n4_ n5_ n6_ n7_ n8_ n9_
             clear hb hbox hg
             refine hK.out _ _ ⟨(blk_cell BK198.out 0).trans rfl, (blk_cell BK198.out 1).trans rfl, (blk_cell BK198.out 2).trans rfl⟩ (fun hHeld => ?_)
             clear hK K
             refine norm_ (a' := ?_) ?_ ?_
             rotate_left
             ·show Act.put _ (some 6) _ = _
              simp only [Act.put, List.setIfInBounds_toArray, List.set_cons_zero, List.set_cons_succ, i64_w, i32_w]
              rfl
             exact norm_ (by first | (simp only [putAll, Act.put, List.setIfInBounds_toArray, List.set_cons_zero, List.set_cons_succ]; done) | (simp only [putAll, Act.put, List.setIfInBounds_toArray, List.set_cons_zero, List.set_cons_succ]; rfl)) (hJ4_5 (gb203, gb204) _ ⟨hHeld, (bk BK198.out), (bk BK203.out), (bk BK204.out), GW203.out, GE203.out, NB198_203.out, NB203_198.out, NB204_203.out, NB203_204.out, GW204.out, GE204.out, NB198_204.out, NB204_198.out, bl⟩)
          ·skip
           rintro gb203 w8 ⟨hS_, h0_, h1_, h2_, h3_, h4_, h5_, h6_⟩
           have n0_ : Aside0 (w8.heap[gb198]? = some (.cells #[.slice A0_0 l0_0.length c0_0, .string a0_1, .bool a0_2] 24 (0, 0))) := ⟨h0_⟩
           have n1_ : Aside0 (w8.heap[gb203]? = some (.cells #[.slice none 0 0] 25 (0, 0))) := ⟨h1_⟩
           have n2_ : Aside0 (w.heap.size ≤ gb203) := ⟨h2_⟩
           have n3_ : Aside0 (w.heap.size ≤ gb203) := ⟨h3_⟩
           have n4_ : Aside0 (gb198 ≠ gb203) := ⟨h4_⟩
           have n5_ : Aside0 (gb203 ≠ gb198) := ⟨h5_⟩
           have n6_ : Aside0 (Below w.heap.size w w8) := ⟨h6_⟩
           clear BK198
           clear HB
           clear h0_ h1_ h2_ h3_ h4_ h5_ h6_
           have BK198 := n0_
           have BK203 := n1_
           have GW203 := n2_
           have GE203 := n3_
           have NB198_203 := n4_
           have NB203_198 := n5_
           have HB := n6_
           clear n0_ n1_ n2_ n3_ n4_ n5_ n6_
           have hHeld : w8.cell? ⟨gb198, 0, none⟩ = some (.slice A0_0 l0_0.length c0_0) ∧ w8.cell? ⟨gb198, 1, none⟩ = some (.string a0_1) ∧ w8.cell? ⟨gb198, 2, none⟩ = some (.bool a0_2) := hS_
           refine norm_ (a' := ?_) ?_ ?_
           rotate_left
           ·simp only [putAll, Act.put, List.setIfInBounds_toArray, List.set_cons_zero, List.set_cons_succ]
            rfl
           refine two_ (i := 1) (j := 5) (Ni := some 13) (Nj := some 7) #[true, true, true, false, true, false, false, false] #[true, false, true, false, true, true, false, false] rfl rfl rfl rfl (two_of HT_.out (by kernel_rfl)) (by decide) (by decide) (fun K hK => ?_) (fun K hK => ?_)
           ·skip
            refine goes_ Tryz.func17 (by kernel_rfl) rfl #[.agg #[.slice A0_0 l0_0.length c0_0, .string a0_1, .bool a0_2]] (by rfl) rfl rfl ml ?_
            with_reducible refine (guard_Marks.calls k _ _ l0_0 a0_1 a0_2 t199 _ ?side1 ?side2 ?side3 A3.out).mono ?_
            (case side1 => repeat (first | exact (Kd.C_below HR0_0.out HB.out) | (with_reducible refine Kd.C_alloc ?_ _) | (with_reducible refine Kd.C_drewN ?_ _) | (with_reducible refine Kd.C_drew ?_)))
            (case side2 => exact HC0_0.out)
            (case side3 => exact Glob.below HG.out bl)
            rintro e w9 ⟨v200, rfl, ho0, hb⟩
            refine ⟨_, rfl, ?_⟩
            have n0_ := Aside0.mk (Kd.R_lower ho0 (below_size bl))
            have n1_ := Aside0.mk (kb BK198.out hb)
            have n2_ := Aside0.mk (kb BK203.out hb)
            have n3_ := Aside0.mk (below_step bl hb)
            clear BK198
            clear BK203
            clear HB
            have HO201 := n0_
            have BK198 := n1_
            have BK203 := n2_
            have HB := n3_
            clear n0_ n1_ n2_ n3_
            (try clear hb)
            (try clear hb2)
            (try clear hk)
            (try clear hi)
            (try clear ho0)
            refine hK.out _ _ ⟨(blk_cell BK198.out 0).trans rfl, (blk_cell BK198.out 1).trans rfl, (blk_cell BK198.out 2).trans rfl⟩ (fun hHeld => ?_)
            clear hK K
            refine norm_ (a' := ?_) ?_ ?_
            rotate_left
            ·show Act.put _ (some 13) _ = _
             simp only [Act.put, List.setIfInBounds_toArray, List.set_cons_zero, List.set_cons_succ, i64_w, i32_w]
             rfl
            exact norm_ (by first | (simp only [putAll, Act.put, List.setIfInBounds_toArray, List.set_cons_zero, List.set_cons_succ]; done) | (simp only [putAll, Act.put, List.setIfInBounds_toArray, List.set_cons_zero, List.set_cons_succ]; rfl)) (hJ1_4 (v200, gb203) _ ⟨hHeld, (kr HO201.out), (bk BK198.out), (bk BK203.out), GW203.out, GE203.out, NB198_203.out, NB203_198.out, bl⟩)
           ·skip
            refine box_step ?hg (N := 7) ?hd (cs := #[.int .i64 0]) (t := 3) ?hr ?_; (case hd => rfl); (case hg => rfl); (case hr => first | (go_simp; done) | (go_simp; rfl))
            intro gb204 hg w9 hbox hb
            have n0_ := Aside0.mk (kb BK198.out hb)
            have n1_ := Aside0.mk (kb BK203.out hb)
            have n2_ := Aside0.mk (below_step bl hb)
            have n3_ := Aside0.mk (hbox)
            have n4_ := Aside0.mk ((by rw [hg]; exact (below_size bl) : w.heap.size ≤ gb204))
            have n5_ := Aside0.mk ((by rw [hg]; exact (below_size bl) : w.heap.size ≤ gb204))
            have n6_ := Aside0.mk ((by rw [hg]; exact Nat.ne_of_lt (blk_lt (bk BK198.out)) : gb198 ≠ gb204))
            have n7_ := Aside0.mk ((by rw [hg]; exact Nat.ne_of_gt (blk_lt (bk BK198.out)) : gb204 ≠ gb198))
            have n8_ := Aside0.mk ((by rw [hg]; exact Nat.ne_of_lt (blk_lt (bk BK203.out)) : gb203 ≠ gb204))
            have n9_ := Aside0.mk ((by rw [hg]; exact Nat.ne_of_gt (blk_lt (bk BK203.out)) : gb204 ≠ gb203))
            clear BK198
            clear BK203
            clear HB
            have BK198 := n0_
            have BK203 := n1_
            have HB := n2_
            have BK204 := n3_
            have GW204 := n4_
            have GE204 := n5_
            have NB198_204 := n6_
            have NB204_198 := n7_
            have NB203_204 := n8_
            have NB204_203 := n9_
            clear n0_ n1_ n2_ n3_ n4_ n5_ n6_ n7_ n8_ n9_
            clear hb hbox hg
            refine hK.out _ _ ⟨(blk_cell BK198.out 0).trans rfl, (blk_cell BK198.out 1).trans rfl, (blk_cell BK198.out 2).trans rfl⟩ (fun hHeld => ?_)
            clear hK K
            refine norm_ (a' := ?_) ?_ ?_
            rotate_left
            ·show Act.put _ (some 7) _ = _
             simp only [Act.put, List.setIfInBounds_toArray, List.set_cons_zero, List.set_cons_succ, i64_w, i32_w]
             rfl
            exact norm_ (by first | (simp only [putAll, Act.put, List.setIfInBounds_toArray, List.set_cons_zero, List.set_cons_succ]; done) | (simp only [putAll, Act.put, List.setIfInBounds_toArray, List.set_cons_zero, List.set_cons_succ]; rfl)) (hJ4_5 (gb203, gb204) _ ⟨hHeld, (bk BK198.out), (bk BK203.out), (bk BK204.out), GW203.out, GE203.out, NB198_203.out, NB203_198.out, NB204_203.out, NB203_204.out, GW204.out, GE204.out, NB198_204.out, NB204_198.out, bl⟩)
         ·skip
          rintro v200 w8 ⟨hS_, h0_, h1_, h2_⟩
          have n0_ : Aside0 (Kd.R k50 50 w8 w.heap.size (fun _ => True) v200 t199) := ⟨h0_⟩
          have n1_ : Aside0 (w8.heap[gb198]? = some (.cells #[.slice A0_0 l0_0.length c0_0, .string a0_1, .bool a0_2] 24 (0, 0))) := ⟨h1_⟩
          have n2_ : Aside0 (Below w.heap.size w w8) := ⟨h2_⟩
          clear BK198
          clear HB
          clear h0_ h1_ h2_
          have HO201 := n0_
          have BK198 := n1_
          have HB := n2_
          clear n0_ n1_ n2_
          have hHeld : w8.cell? ⟨gb198, 0, none⟩ = some (.slice A0_0 l0_0.length c0_0) ∧ w8.cell? ⟨gb198, 1, none⟩ = some (.string a0_1) ∧ w8.cell? ⟨gb198, 2, none⟩ = some (.bool a0_2) := hS_
          refine norm_ (a' := ?_) ?_ ?_
          rotate_left
          ·simp only [putAll, Act.put, List.setIfInBounds_toArray, List.set_cons_zero, List.set_cons_succ]
           rfl
          refine three_ (i := 3) (j := 4) (k := 5) (Ni := some 15) (Nj := some 6) (Nk := some 7) #[true, true, true, true, false, false, false, false] #[true, true, true, false, true, false, false, false] #[true, true, true, false, false, true, false, false] rfl rfl rfl rfl rfl rfl (three_of HT_.out (by kernel_rfl)) (by decide) (by decide) (by decide) (fun K hK => ?_) (fun K hK => ?_) (fun K hK => ?_)
          ·skip
           refine goes_ Tryz.func15 (by kernel_rfl) rfl #[.agg #[.slice A0_0 l0_0.length c0_0, .string a0_1, .bool a0_2]] (by rfl) rfl rfl ml ?_
           with_reducible refine (guard_Hops.calls _ _ l0_0 a0_1 a0_2 t202 _ ?side1 ?side2 A4.out).mono ?_
           (case side1 => repeat (first | exact (Kd.C_below HR0_0.out HB.out) | (with_reducible refine Kd.C_alloc ?_ _) | (with_reducible refine Kd.C_drewN ?_ _) | (with_reducible refine Kd.C_drew ?_)))
           (case side2 => exact HC0_0.out)
           rintro e w9 ⟨rfl, hb⟩
           refine ⟨_, rfl, ?_⟩
           have n0_ := Aside0.mk (Kd.R_below (kr HO201.out) hb)
           have n1_ := Aside0.mk (kb BK198.out hb)
           have n2_ := Aside0.mk (below_step bl hb)
           clear HO201
           clear BK198
           clear HB
           have HO201 := n0_
           have BK198 := n1_
           have HB := n2_
           clear n0_ n1_ n2_
           (try clear hb)
           (try clear hb2)
           (try clear hk)
           (try clear hi)
           refine hK.out _ _ ⟨(blk_cell BK198.out 0).trans rfl, (blk_cell BK198.out 1).trans rfl, (blk_cell BK198.out 2).trans rfl⟩ (fun hHeld => ?_)
           clear hK K
           refine norm_ (a' := ?_) ?_ ?_
           rotate_left
           ·show Act.put _ (some 15) _ = _
            simp only [Act.put, List.setIfInBounds_toArray, List.set_cons_zero, List.set_cons_succ, i64_w, i32_w]
            rfl
           exact norm_ (by first | (simp only [putAll, Act.put, List.setIfInBounds_toArray, List.set_cons_zero, List.set_cons_succ]; done) | (simp only [putAll, Act.put, List.setIfInBounds_toArray, List.set_cons_zero, List.set_cons_succ]; rfl)) (hJ1_3 (v200) _ ⟨hHeld, (kr HO201.out), (bk BK198.out), bl⟩)
          ·skip
           refine box_step ?hg (N := 6) ?hd (cs := #[.slice none 0 0]) (t := 25) ?hr ?_; (case hd => rfl); (case hg => rfl); (case hr => first | (go_simp; done) | (go_simp; rfl))
           intro gb203 hg w9 hbox hb
           have n0_ := Aside0.mk (Kd.R_below (kr HO201.out) hb)
           have n1_ := Aside0.mk (kb BK198.out hb)
           have n2_ := Aside0.mk (below_step bl hb)
           have n3_ := Aside0.mk (hbox)
           have n4_ := Aside0.mk ((by rw [hg]; exact (below_size bl) : w.heap.size ≤ gb203))
           have n5_ := Aside0.mk ((by rw [hg]; exact (below_size bl) : w.heap.size ≤ gb203))
           have n6_ := Aside0.mk ((by rw [hg]; exact Nat.ne_of_lt (blk_lt (bk BK198.out)) : gb198 ≠ gb203))
           have n7_ := Aside0.mk ((by rw [hg]; exact Nat.ne_of_gt (blk_lt (bk BK198.out)) : gb203 ≠ gb198))
           clear HO201
           clear BK198
           clear HB
           have HO201 := n0_
           have BK198 := n1_
           have HB := n2_
           have BK203 := n3_
           have GW203 := n4_
           have GE203 := n5_
           have NB198_203 := n6_
           have NB203_198 := n7_
           clear n0_ n1_ n2_ n3_ n4_ n5_ n6_ n7_
           clear hb hbox hg
           refine hK.out _ _ ⟨(blk_cell BK198.out 0).trans rfl, (blk_cell BK198.out 1).trans rfl, (blk_cell BK198.out 2).trans rfl⟩ (fun hHeld => ?_)
           clear hK K
           refine norm_ (a' := ?_) ?_ ?_
           rotate_left
           ·show Act.put _ (some 6) _ = _
            simp only [Act.put, List.setIfInBounds_toArray, List.set_cons_zero, List.set_cons_succ, i64_w, i32_w]
            rfl
           exact norm_ (by first | (simp only [putAll, Act.put, List.setIfInBounds_toArray, List.set_cons_zero, List.set_cons_succ]; done) | (simp only [putAll, Act.put, List.setIfInBounds_toArray, List.set_cons_zero, List.set_cons_succ]; rfl)) (hJ1_4 (v200, gb203) _ ⟨hHeld, (kr HO201.out), (bk BK198.out), (bk BK203.out), GW203.out, GE203.out, NB198_203.out, NB203_198.out, bl⟩)
          ·skip
           refine box_step ?hg (N := 7) ?hd (cs := #[.int .i64 0]) (t := 3) ?hr ?_; (case hd => rfl); (case hg => rfl); (case hr => first | (go_simp; done) | (go_simp; rfl))
           intro gb204 hg w9 hbox hb
           have n0_ := Aside0.mk (Kd.R_below (kr HO201.out) hb)
           have n1_ := Aside0.mk (kb BK198.out hb)
           have n2_ := Aside0.mk (below_step bl hb)
           have n3_ := Aside0.mk (hbox)
           have n4_ := Aside0.mk ((by rw [hg]; exact (below_size bl) : w.heap.size ≤ gb204))
           have n5_ := Aside0.mk ((by rw [hg]; exact (below_size bl) : w.heap.size ≤ gb204))
           have n6_ := Aside0.mk ((by rw [hg]; exact Nat.ne_of_lt (blk_lt (bk BK198.out)) : gb198 ≠ gb204))
           have n7_ := Aside0.mk ((by rw [hg]; exact Nat.ne_of_gt (blk_lt (bk BK198.out)) : gb204 ≠ gb198))
           clear HO201
           clear BK198
           clear HB
           have HO201 := n0_
           have BK198 := n1_
           have HB := n2_
           have BK204 := n3_
           have GW204 := n4_
           have GE204 := n5_
           have NB198_204 := n6_
           have NB204_198 := n7_
           clear n0_ n1_ n2_ n3_ n4_ n5_ n6_ n7_
           clear hb hbox hg
           refine hK.out _ _ ⟨(blk_cell BK198.out 0).trans rfl, (blk_cell BK198.out 1).trans rfl, (blk_cell BK198.out 2).trans rfl⟩ (fun hHeld => ?_)
           clear hK K
           refine norm_ (a' := ?_) ?_ ?_
           rotate_left
           ·show Act.put _ (some 7) _ = _
            simp only [Act.put, List.setIfInBounds_toArray, List.set_cons_zero, List.set_cons_succ, i64_w, i32_w]
            rfl
           exact norm_ (by first | (simp only [putAll, Act.put, List.setIfInBounds_toArray, List.set_cons_zero, List.set_cons_succ]; done) | (simp only [putAll, Act.put, List.setIfInBounds_toArray, List.set_cons_zero, List.set_cons_succ]; rfl)) (hJ1_5 (v200, gb204) _ ⟨hHeld, (kr HO201.out), (bk BK198.out), (bk BK204.out), GW204.out, GE204.out, NB198_204.out, NB204_198.out, bl⟩)
        ·skip
         rintro ⟨gb203, gb204⟩ w9 ⟨hS_, h0_, h1_, h2_, h3_, h4_, h5_, h6_, h7_, h8_, h9_, h10_, h11_, h12_, h13_⟩
         have n0_ : Aside0 (w9.heap[gb198]? = some (.cells #[.slice A0_0 l0_0.length c0_0, .string a0_1, .bool a0_2] 24 (0, 0))) := ⟨h0_⟩
         have n1_ : Aside0 (w9.heap[gb203]? = some (.cells #[.slice none 0 0] 25 (0, 0))) := ⟨h1_⟩
         have n2_ : Aside0 (w9.heap[gb204]? = some (.cells #[.int .i64 0] 3 (0, 0))) := ⟨h2_⟩
         have n3_ : Aside0 (w.heap.size ≤ gb203) := ⟨h3_⟩
         have n4_ : Aside0 (w.heap.size ≤ gb203) := ⟨h4_⟩
         have n5_ : Aside0 (gb198 ≠ gb203) := ⟨h5_⟩
         have n6_ : Aside0 (gb203 ≠ gb198) := ⟨h6_⟩
         have n7_ : Aside0 (gb204 ≠ gb203) := ⟨h7_⟩
         have n8_ : Aside0 (gb203 ≠ gb204) := ⟨h8_⟩
         have n9_ : Aside0 (w.heap.size ≤ gb204) := ⟨h9_⟩
         have n10_ : Aside0 (w.heap.size ≤ gb204) := ⟨h10_⟩
         have n11_ : Aside0 (gb198 ≠ gb204) := ⟨h11_⟩
         have n12_ : Aside0 (gb204 ≠ gb198) := ⟨h12_⟩
         have n13_ : Aside0 (Below w.heap.size w w9) := ⟨h13_⟩
         clear BK198
         clear HB
         clear h0_ h1_ h2_ h3_ h4_ h5_ h6_ h7_ h8_ h9_ h10_ h11_ h12_ h13_
         have BK198 := n0_
         have BK203 := n1_
         have BK204 := n2_
         have GW203 := n3_
         have GE203 := n4_
         have NB198_203 := n5_
         have NB203_198 := n6_
         have NB204_203 := n7_
         have NB203_204 := n8_
         have GW204 := n9_
         have GE204 := n10_
         have NB198_204 := n11_
         have NB204_198 := n12_
         have HB := n13_
         clear n0_ n1_ n2_ n3_ n4_ n5_ n6_ n7_ n8_ n9_ n10_ n11_ n12_ n13_
         have hHeld : w9.cell? ⟨gb198, 0, none⟩ = some (.slice A0_0 l0_0.length c0_0) ∧ w9.cell? ⟨gb198, 1, none⟩ = some (.string a0_1) ∧ w9.cell? ⟨gb198, 2, none⟩ = some (.bool a0_2) := hS_
         refine norm_ (a' := ?_) ?_ ?_
         rotate_left
         ·simp only [putAll, Act.put, List.setIfInBounds_toArray, List.set_cons_zero, List.set_cons_succ]
          rfl
         refine one_ (i := 1) (N := some 13) #[true, true, true, false, true, true, false, false] rfl rfl (one_of HT_.out (by kernel_rfl)) (by decide) (fun K hK => ?_)
         refine goes_ Tryz.func17 (by kernel_rfl) rfl #[.agg #[.slice A0_0 l0_0.length c0_0, .string a0_1, .bool a0_2]] (by rfl) rfl rfl ml ?_
         with_reducible refine (guard_Marks.calls k _ _ l0_0 a0_1 a0_2 t199 _ ?side1 ?side2 ?side3 A3.out).mono ?_
         (case side1 => repeat (first | exact (Kd.C_below HR0_0.out HB.out) | (with_reducible refine Kd.C_alloc ?_ _) | (with_reducible refine Kd.C_drewN ?_ _) | (with_reducible refine Kd.C_drew ?_)))
         (case side2 => exact HC0_0.out)
         (case side3 => exact Glob.below HG.out bl)
         rintro e w10 ⟨v200, rfl, ho0, hb⟩
         refine ⟨_, rfl, ?_⟩
         have n0_ := Aside0.mk (Kd.R_lower ho0 (below_size bl))
         have n1_ := Aside0.mk (kb BK198.out hb)
         have n2_ := Aside0.mk (kb BK203.out hb)
         have n3_ := Aside0.mk (kb BK204.out hb)
         have n4_ := Aside0.mk (below_step bl hb)
         clear BK198
         clear BK203
         clear BK204
         clear HB
         have HO201 := n0_
         have BK198 := n1_
         have BK203 := n2_
         have BK204 := n3_
         have HB := n4_
         clear n0_ n1_ n2_ n3_ n4_
         (try clear hb)
         (try clear hb2)
         (try clear hk)
         (try clear hi)
         (try clear ho0)
         refine hK.out _ _ ⟨(blk_cell BK198.out 0).trans rfl, (blk_cell BK198.out 1).trans rfl, (blk_cell BK198.out 2).trans rfl⟩ (fun hHeld => ?_)
         clear hK K
         refine norm_ (a' := ?_) ?_ ?_
         rotate_left
         ·show Act.put _ (some 13) _ = _
          simp only [Act.put, List.setIfInBounds_toArray, List.set_cons_zero, List.set_cons_succ, i64_w, i32_w]
          rfl
         exact norm_ (by first | (simp only [putAll, Act.put, List.setIfInBounds_toArray, List.set_cons_zero, List.set_cons_succ]; done) | (simp only [putAll, Act.put, List.setIfInBounds_toArray, List.set_cons_zero, List.set_cons_succ]; rfl)) (hJ1_4_5 (v200, gb203, gb204) _ ⟨hHeld, (kr HO201.out), (bk BK198.out), (bk BK203.out), (bk BK204.out), GW203.out, GE203.out, NB198_203.out, NB203_198.out, NB204_203.out, NB203_204.out, GW204.out, GE204.out, NB198_204.out, NB204_198.out, bl⟩)
       ·skip
        rintro ⟨v200, gb204⟩ w9 ⟨hS_, h0_, h1_, h2_, h3_, h4_, h5_, h6_, h7_⟩
        have n0_ : Aside0 (Kd.R k50 50 w9 w.heap.size (fun _ => True) v200 t199) := ⟨h0_⟩
        have n1_ : Aside0 (w9.heap[gb198]? = some (.cells #[.slice A0_0 l0_0.length c0_0, .string a0_1, .bool a0_2] 24 (0, 0))) := ⟨h1_⟩
        have n2_ : Aside0 (w9.heap[gb204]? = some (.cells #[.int .i64 0] 3 (0, 0))) := ⟨h2_⟩
        have n3_ : Aside0 (w.heap.size ≤ gb204) := ⟨h3_⟩
        have n4_ : Aside0 (w.heap.size ≤ gb204) := ⟨h4_⟩
        have n5_ : Aside0 (gb198 ≠ gb204) := ⟨h5_⟩
        have n6_ : Aside0 (gb204 ≠ gb198) := ⟨h6_⟩
        have n7_ : Aside0 (Below w.heap.size w w9) := ⟨h7_⟩
        clear BK198
        clear HB
        clear h0_ h1_ h2_ h3_ h4_ h5_ h6_ h7_
        have HO201 := n0_
        have BK198 := n1_
        have BK204 := n2_
        have GW204 := n3_
        have GE204 := n4_
        have NB198_204 := n5_
        have NB204_198 := n6_
        have HB := n7_
        clear n0_ n1_ n2_ n3_ n4_ n5_ n6_ n7_
        have hHeld : w9.cell? ⟨gb198, 0, none⟩ = some (.slice A0_0 l0_0.length c0_0) ∧ w9.cell? ⟨gb198, 1, none⟩ = some (.string a0_1) ∧ w9.cell? ⟨gb198, 2, none⟩ = some (.bool a0_2) := hS_
        refine norm_ (a' := ?_) ?_ ?_
        rotate_left
        ·simp only [putAll, Act.put, List.setIfInBounds_toArray, List.set_cons_zero, List.set_cons_succ]
         rfl
        refine two_ (i := 3) (j := 4) (Ni := some 15) (Nj := some 6) #[true, true, true, true, false, true, false, false] #[true, true, true, false, true, true, false, false] rfl rfl rfl rfl (two_of HT_.out (by kernel_rfl)) (by decide) (by decide) (fun K hK => ?_) (fun K hK => ?_)
        ·skip
         refine goes_ Tryz.func15 (by kernel_rfl) rfl #[.agg #[.slice A0_0 l0_0.length c0_0, .string a0_1, .bool a0_2]] (by rfl) rfl rfl ml ?_
         with_reducible refine (guard_Hops.calls _ _ l0_0 a0_1 a0_2 t202 _ ?side1 ?side2 A4.out).mono ?_
         (case side1 => repeat (first | exact (Kd.C_below HR0_0.out HB.out) | (with_reducible refine Kd.C_alloc ?_ _) | (with_reducible refine Kd.C_drewN ?_ _) | (with_reducible refine Kd.C_drew ?_)))
         (case side2 => exact HC0_0.out)
         rintro e w10 ⟨rfl, hb⟩
         refine ⟨_, rfl, ?_⟩
         have n0_ := Aside0.mk (Kd.R_below (kr HO201.out) hb)
         have n1_ := Aside0.mk (kb BK198.out hb)
         have n2_ := Aside0.mk (kb BK204.out hb)
         have n3_ := Aside0.mk (below_step bl hb)
         clear HO201
         clear BK198
         clear BK204
         clear HB
         have HO201 := n0_
         have BK198 := n1_
         have BK204 := n2_
         have HB := n3_
         clear n0_ n1_ n2_ n3_
         (try clear hb)
         (try clear hb2)
         (try clear hk)
         (try clear hi)
         refine hK.out _ _ ⟨(blk_cell BK198.out 0).trans rfl, (blk_cell BK198.out 1).trans rfl, (blk_cell BK198.out 2).trans rfl⟩ (fun hHeld => ?_)
         clear hK K
         refine norm_ (a' := ?_) ?_ ?_
         rotate_left
         ·show Act.put _ (some 15) _ = _
          simp only [Act.put, List.setIfInBounds_toArray, List.set_cons_zero, List.set_cons_succ, i64_w, i32_w]
          rfl
         exact norm_ (by first | (simp only [putAll, Act.put, List.setIfInBounds_toArray, List.set_cons_zero, List.set_cons_succ]; done) | (simp only [putAll, Act.put, List.setIfInBounds_toArray, List.set_cons_zero, List.set_cons_succ]; rfl)) (hJ1_3_5 (v200, gb204) _ ⟨hHeld, (kr HO201.out), (bk BK198.out), (bk BK204.out), GW204.out, GE204.out, NB198_204.out, NB204_198.out, bl⟩)
        ·skip
         refine box_step ?hg (N := 6) ?hd (cs := #[.slice none 0 0]) (t := 25) ?hr ?_; (case hd => rfl); (case hg => rfl); (case hr => first | (go_simp; done) | (go_simp; rfl))
         intro gb203 hg w10 hbox hb
         have n0_ := Aside0.mk (Kd.R_below (kr HO201.out) hb)
         have n1_ := Aside0.mk (kb BK198.out hb)
         have n2_ := Aside0.mk (kb BK204.out hb)
         have n3_ := Aside0.mk (below_step bl hb)
         have n4_ := Aside0.mk (hbox)
         have n5_ := Aside0.mk ((by rw [hg]; exact (below_size bl) : w.heap.size ≤ gb203))
         have n6_ := Aside0.mk ((by rw [hg]; exact (below_size bl) : w.heap.size ≤ gb203))
         have n7_ := Aside0.mk ((by rw [hg]; exact Nat.ne_of_lt (blk_lt (bk BK198.out)) : gb198 ≠ gb203))
         have n8_ := Aside0.mk ((by rw [hg]; exact Nat.ne_of_gt (blk_lt (bk BK198.out)) : gb203 ≠ gb198))
         have n9_ := Aside0.mk ((by rw [hg]; exact Nat.ne_of_lt (blk_lt (bk BK204.out)) : gb204 ≠ gb203))
         have n10_ := Aside0.mk ((by rw [hg]; exact Nat.ne_of_gt (blk_lt (bk BK204.out)) : gb203 ≠ gb204))
         clear HO201
         clear BK198
         clear BK204
         clear HB
         have HO201 := n0_
         have BK198 := n1_
         have BK204 := n2_
         have HB := n3_
         have BK203 := n4_
         have GW203 := n5_
         have GE203 := n6_
         have NB198_203 := n7_
         have NB203_198 := n8_
         have NB204_203 := n9_
         have NB203_204 := n10_
         clear n0_ n1_ n2_ n3_ n4_ n5_ n6_ n7_ n8_ n9_ n10_
         clear hb hbox hg
         refine hK.out _ _ ⟨(blk_cell BK198.out 0).trans rfl, (blk_cell BK198.out 1).trans rfl, (blk_cell BK198.out 2).trans rfl⟩ (fun hHeld => ?_)
         clear hK K
         refine norm_ (a' := ?_) ?_ ?_
         rotate_left
         ·show Act.put _ (some 6) _ = _
          simp only [Act.put, List.setIfInBounds_toArray, List.set_cons_zero, List.set_cons_succ, i64_w, i32_w]
          rfl
         exact norm_ (by first | (simp only [putAll, Act.put, List.setIfInBounds_toArray, List.set_cons_zero, List.set_cons_succ]; done) | (simp only [putAll, Act.put, List.setIfInBounds_toArray, List.set_cons_zero, List.set_cons_succ]; rfl)) (hJ1_4_5 (v200, gb203, gb204) _ ⟨hHeld, (kr HO201.out), (bk BK198.out), (bk BK203.out), (bk BK204.out), GW203.out, GE203.out, NB198_203.out, NB203_198.out, NB204_203.out, NB203_204.out, GW204.out, GE204.out, NB198_204.out, NB204_198.out, bl⟩)
      ·skip
       rintro ⟨v200, gb203⟩ w9 ⟨hS_, h0_, h1_, h2_, h3_, h4_, h5_, h6_, h7_⟩
       have n0_ : Aside0 (Kd.R k50 50 w9 w.heap.size (fun _ => True) v200 t199) := ⟨h0_⟩
       have n1_ : Aside0 (w9.heap[gb198]? = some (.cells #[.slice A0_0 l0_0.length c0_0, .string a0_1, .bool a0_2] 24 (0, 0))) := ⟨h1_⟩
       have n2_ : Aside0 (w9.heap[gb203]? = some (.cells #[.slice none 0 0] 25 (0, 0))) := ⟨h2_⟩
       have n3_ : Aside0 (w.heap.size ≤ gb203) := ⟨h3_⟩
       have n4_ : Aside0 (w.heap.size ≤ gb203) := ⟨h4_⟩
       have n5_ : Aside0 (gb198 ≠ gb203) := ⟨h5_⟩
       have n6_ : Aside0 (gb203 ≠ gb198) := ⟨h6_⟩
       have n7_ : Aside0 (Below w.heap.size w w9) := ⟨h7_⟩
       clear BK198
       clear HB
       clear h0_ h1_ h2_ h3_ h4_ h5_ h6_ h7_
       have HO201 := n0_
       have BK198 := n1_
       have BK203 := n2_
       have GW203 := n3_
       have GE203 := n4_
       have NB198_203 := n5_
       have NB203_198 := n6_
       have HB := n7_
       clear n0_ n1_ n2_ n3_ n4_ n5_ n6_ n7_
       have hHeld : w9.cell? ⟨gb198, 0, none⟩ = some (.slice A0_0 l0_0.length c0_0) ∧ w9.cell? ⟨gb198, 1, none⟩ = some (.string a0_1) ∧ w9.cell? ⟨gb198, 2, none⟩ = some (.bool a0_2) := hS_
       refine norm_ (a' := ?_) ?_ ?_
       rotate_left
       ·simp only [putAll, Act.put, List.setIfInBounds_toArray, List.set_cons_zero, List.set_cons_succ]
        rfl
       refine two_ (i := 3) (j := 5) (Ni := some 15) (Nj := some 7) #[true, true, true, true, true, false, false, false] #[true, true, true, false, true, true, false, false] rfl rfl rfl rfl (two_of HT_.out (by kernel_rfl)) (by decide) (by decide) (fun K hK => ?_) (fun K hK => ?_)
       ·skip
        refine goes_ Tryz.func15 (by kernel_rfl) rfl #[.agg #[.slice A0_0 l0_0.length c0_0, .string a0_1, .bool a0_2]] (by rfl) rfl rfl ml ?_
        with_reducible refine (guard_Hops.calls _ _ l0_0 a0_1 a0_2 t202 _ ?side1 ?side2 A4.out).mono ?_
        (case side1 => repeat (first | exact (Kd.C_below HR0_0.out HB.out) | (with_reducible refine Kd.C_alloc ?_ _) | (with_reducible refine Kd.C_drewN ?_ _) | (with_reducible refine Kd.C_drew ?_)))
        (case side2 => exact HC0_0.out)
        rintro e w10 ⟨rfl, hb⟩
        refine ⟨_, rfl, ?_⟩
        have n0_ := Aside0.mk (Kd.R_below (kr HO201.out) hb)
        have n1_ := Aside0.mk (kb BK198.out hb)
        have n2_ := Aside0.mk (kb BK203.out hb)
        have n3_ := Aside0.mk (below_step bl hb)
        clear HO201
        clear BK198
        clear BK203
        clear HB
        have HO201 := n0_
        have BK198 := n1_
        have BK203 := n2_
        have HB := n3_
        clear n0_ n1_ n2_ n3_
        (try clear hb)
        (try clear hb2)
        (try clear hk)
        (try clear hi)
        refine hK.out _ _ ⟨(blk_cell BK198.out 0).trans rfl, (blk_cell BK198.out 1).trans rfl, (blk_cell BK198.out 2).trans rfl⟩ (fun hHeld => ?_)
        clear hK K
        refine norm_ (a' := ?_) ?_ ?_
        rotate_left
        ·show Act.put _ (some 15) _ = _
         simp only [Act.put, List.setIfInBounds_toArray, List.set_cons_zero, List.set_cons_succ, i64_w, i32_w]
         rfl
        exact norm_ (by first | (simp only [putAll, Act.put, List.setIfInBounds_toArray, List.set_cons_zero, List.set_cons_succ]; done) | (simp only [putAll, Act.put, List.setIfInBounds_toArray, List.set_cons_zero, List.set_cons_succ]; rfl)) (hJ1_3_4 (v200, gb203) _ ⟨hHeld, (kr HO201.out), (bk BK198.out), (bk BK203.out), GW203.out, GE203.out, NB198_203.out, NB203_198.out, bl⟩)
       ·skip
        refine box_step ?hg (N := 7) ?hd (cs := #[.int .i64 0]) (t := 3) ?hr ?_; (case hd => rfl); (case hg => rfl); (case hr => first | (go_simp; done) | (go_simp; rfl))
        intro gb204 hg w10 hbox hb
        have n0_ := Aside0.mk (Kd.R_below (kr HO201.out) hb)
        have n1_ := Aside0.mk (kb BK198.out hb)
        have n2_ := Aside0.mk (kb BK203.out hb)
        have n3_ := Aside0.mk (below_step bl hb)
        have n4_ := Aside0.mk (hbox)
        have n5_ := Aside0.mk ((by rw [hg]; exact (below_size bl) : w.heap.size ≤ gb204))
        have n6_ := Aside0.mk ((by rw [hg]; exact (below_size bl) : w.heap.size ≤ gb204))
        have n7_ := Aside0.mk ((by rw [hg]; exact Nat.ne_of_lt (blk_lt (bk BK198.out)) : gb198 ≠ gb204))
        have n8_ := Aside0.mk ((by rw [hg]; exact Nat.ne_of_gt (blk_lt (bk BK198.out)) : gb204 ≠ gb198))
        have n9_ := Aside0.mk ((by rw [hg]; exact Nat.ne_of_lt (blk_lt (bk BK203.out)) : gb203 ≠ gb204))
        have n10_ := Aside0.mk ((by rw [hg]; exact Nat.ne_of_gt (blk_lt (bk BK203.out)) : gb204 ≠ gb203))
        clear HO201
        clear BK198
        clear BK203
        clear HB
        have HO201 := n0_
        have BK198 := n1_
        have BK203 := n2_
        have HB := n3_
        have BK204 := n4_
        have GW204 := n5_
        have GE204 := n6_
        have NB198_204 := n7_
        have NB204_198 := n8_
        have NB203_204 := n9_
        have NB204_203 := n10_
        clear n0_ n1_ n2_ n3_ n4_ n5_ n6_ n7_ n8_ n9_ n10_
        clear hb hbox hg
        refine hK.out _ _ ⟨(blk_cell BK198.out 0).trans rfl, (blk_cell BK198.out 1).trans rfl, (blk_cell BK198.out 2).trans rfl⟩ (fun hHeld => ?_)
        clear hK K
        refine norm_ (a' := ?_) ?_ ?_
        rotate_left
        ·show Act.put _ (some 7) _ = _
         simp only [Act.put, List.setIfInBounds_toArray, List.set_cons_zero, List.set_cons_succ, i64_w, i32_w]
         rfl
        exact norm_ (by first | (simp only [putAll, Act.put, List.setIfInBounds_toArray, List.set_cons_zero, List.set_cons_succ]; done) | (simp only [putAll, Act.put, List.setIfInBounds_toArray, List.set_cons_zero, List.set_cons_succ]; rfl)) (hJ1_4_5 (v200, gb203, gb204) _ ⟨hHeld, (kr HO201.out), (bk BK198.out), (bk BK203.out), (bk BK204.out), GW203.out, GE203.out, NB198_203.out, NB203_198.out, NB204_203.out, NB203_204.out, GW204.out, GE204.out, NB198_204.out, NB204_198.out, bl⟩)
     ·skip
      rintro v200 w9 ⟨hS_, h0_, h1_, h2_⟩
      have n0_ : Aside0 (Kd.R k50 50 w9 w.heap.size (fun _ => True) v200 t199) := ⟨h0_⟩
      have n1_ : Aside0 (w9.heap[gb198]? = some (.cells #[.slice A0_0 l0_0.length c0_0, .string a0_1, .bool a0_2] 24 (0, 0))) := ⟨h1_⟩
      have n2_ : Aside0 (Below w.heap.size w w9) := ⟨h2_⟩
      clear BK198
      clear HB
      clear h0_ h1_ h2_
      have HO201 := n0_
      have BK198 := n1_
      have HB := n2_
      clear n0_ n1_ n2_
      have hHeld : w9.cell? ⟨gb198, 0, none⟩ = some (.slice A0_0 l0_0.length c0_0) ∧ w9.cell? ⟨gb198, 1, none⟩ = some (.string a0_1) ∧ w9.cell? ⟨gb198, 2, none⟩ = some (.bool a0_2) := hS_
      refine norm_ (a' := ?_) ?_ ?_
      rotate_left
      ·simp only [putAll, Act.put, List.setIfInBounds_toArray, List.set_cons_zero, List.set_cons_succ]
       rfl
      refine two_ (i := 4) (j := 5) (Ni := some 6) (Nj := some 7) #[true, true, true, true, true, false, false, false] #[true, true, true, true, false, true, false, false] rfl rfl rfl rfl (two_of HT_.out (by kernel_rfl)) (by decide) (by decide) (fun K hK => ?_) (fun K hK => ?_)
      ·skip
       refine box_step ?hg (N := 6) ?hd (cs := #[.slice none 0 0]) (t := 25) ?hr ?_; (case hd => rfl); (case hg => rfl); (case hr => first | (go_simp; done) | (go_simp; rfl))
       intro gb203 hg w10 hbox hb
       have n0_ := Aside0.mk (Kd.R_below (kr HO201.out) hb)
       have n1_ := Aside0.mk (kb BK198.out hb)
       have n2_ := Aside0.mk (below_step bl hb)
       have n3_ := Aside0.mk (hbox)
       have n4_ := Aside0.mk ((by rw [hg]; exact (below_size bl) : w.heap.size ≤ gb203))
       have n5_ := Aside0.mk ((by rw [hg]; exact (below_size bl) : w.heap.size ≤ gb203))
       have n6_ := Aside0.mk ((by rw [hg]; exact Nat.ne_of_lt (blk_lt (bk BK198.out)) : gb198 ≠ gb203))
       have n7_ := Aside0.mk ((by rw [hg]; exact Nat.ne_of_gt (blk_lt (bk BK198.out)) : gb203 ≠ gb198))
       clear HO201
       clear BK198
       clear HB
       have HO201 := n0_
       have BK198 := n1_
       have HB := n2_
       have BK203 := n3_
       have GW203 := n4_
       have GE203 := n5_
       have NB198_203 := n6_
       have NB203_198 := n7_
       clear n0_ n1_ n2_ n3_ n4_ n5_ n6_ n7_
       clear hb hbox hg
       refine hK.out _ _ ⟨(blk_cell BK198.out 0).trans rfl, (blk_cell BK198.out 1).trans rfl, (blk_cell BK198.out 2).trans rfl⟩ (fun hHeld => ?_)
       clear hK K
       refine norm_ (a' := ?_) ?_ ?_
       rotate_left
       ·show Act.put _ (some 6) _ = _
        simp only [Act.put, List.setIfInBounds_toArray, List.set_cons_zero, List.set_cons_succ, i64_w, i32_w]
        rfl
       exact norm_ (by first | (simp only [putAll, Act.put, List.setIfInBounds_toArray, List.set_cons_zero, List.set_cons_succ]; done) | (simp only [putAll, Act.put, List.setIfInBounds_toArray, List.set_cons_zero, List.set_cons_succ]; rfl)) (hJ1_3_4 (v200, gb203) _ ⟨hHeld, (kr HO201.out), (bk BK198.out), (bk BK203.out), GW203.out, GE203.out, NB198_203.out, NB203_198.out, bl⟩)
      ·skip
       refine box_step ?hg (N := 7) ?hd (cs := #[.int .i64 0]) (t := 3) ?hr ?_; (case hd => rfl); (case hg => rfl); (case hr => first | (go_simp; done) | (go_simp; rfl))
       intro gb204 hg w10 hbox hb
       have n0_ := Aside0.mk (Kd.R_below (kr HO201.out) hb)
       have n1_ := Aside0.mk (kb BK198.out hb)
       have n2_ := Aside0.mk (below_step bl hb)
       have n3_ := Aside0.mk (hbox)
       have n4_ := Aside0.mk ((by rw [hg]; exact (below_size bl) : w.heap.size ≤ gb204))
       have n5_ := Aside0.mk ((by rw [hg]; exact (below_size bl) : w.heap.size ≤ gb204))
       have n6_ := Aside0.mk ((by rw [hg]; exact Nat.ne_of_lt (blk_lt (bk BK198.out)) : gb198 ≠ gb204))
       have n7_ := Aside0.mk ((by rw [hg]; exact Nat.ne_of_gt (blk_lt (bk BK198.out)) : gb204 ≠ gb198))
       clear HO201
       clear BK198
       clear HB
       have HO201 := n0_
       have BK198 := n1_
       have HB := n2_
       have BK204 := n3_
       have GW204 := n4_
       have GE204 := n5_
       have NB198_204 := n6_
       have NB204_198 := n7_
       clear n0_ n1_ n2_ n3_ n4_ n5_ n6_ n7_
       clear hb hbox hg
       refine hK.out _ _ ⟨(blk_cell BK198.out 0).trans rfl, (blk_cell BK198.out 1).trans rfl, (blk_cell BK198.out 2).trans rfl⟩ (fun hHeld => ?_)
       clear hK K
       refine norm_ (a' := ?_) ?_ ?_
       rotate_left
       ·show Act.put _ (some 7) _ = _
        simp only [Act.put, List.setIfInBounds_toArray, List.set_cons_zero, List.set_cons_succ, i64_w, i32_w]
        rfl
       exact norm_ (by first | (simp only [putAll, Act.put, List.setIfInBounds_toArray, List.set_cons_zero, List.set_cons_succ]; done) | (simp only [putAll, Act.put, List.setIfInBounds_toArray, List.set_cons_zero, List.set_cons_succ]; rfl)) (hJ1_3_5 (v200, gb204) _ ⟨hHeld, (kr HO201.out), (bk BK198.out), (bk BK204.out), GW204.out, GE204.out, NB198_204.out, NB204_198.out, bl⟩)
    ·skip
     rintro ⟨v200, gb203, gb204⟩ w10 ⟨hS_, h0_, h1_, h2_, h3_, h4_, h5_, h6_, h7_, h8_, h9_, h10_, h11_, h12_, h13_, h14_⟩
     have n0_ : Aside0 (Kd.R k50 50 w10 w.heap.size (fun _ => True) v200 t199) := ⟨h0_⟩
     have n1_ : Aside0 (w10.heap[gb198]? = some (.cells #[.slice A0_0 l0_0.length c0_0, .string a0_1, .bool a0_2] 24 (0, 0))) := ⟨h1_⟩
     have n2_ : Aside0 (w10.heap[gb203]? = some (.cells #[.slice none 0 0] 25 (0, 0))) := ⟨h2_⟩
     have n3_ : Aside0 (w10.heap[gb204]? = some (.cells #[.int .i64 0] 3 (0, 0))) := ⟨h3_⟩
     have n4_ : Aside0 (w.heap.size ≤ gb203) := ⟨h4_⟩
     have n5_ : Aside0 (w.heap.size ≤ gb203) := ⟨h5_⟩
     have n6_ : Aside0 (gb198 ≠ gb203) := ⟨h6_⟩
     have n7_ : Aside0 (gb203 ≠ gb198) := ⟨h7_⟩
     have n8_ : Aside0 (gb204 ≠ gb203) := ⟨h8_⟩
     have n9_ : Aside0 (gb203 ≠ gb204) := ⟨h9_⟩
     have n10_ : Aside0 (w.heap.size ≤ gb204) := ⟨h10_⟩
     have n11_ : Aside0 (w.heap.size ≤ gb204) := ⟨h11_⟩
     have n12_ : Aside0 (gb198 ≠ gb204) := ⟨h12_⟩
     have n13_ : Aside0 (gb204 ≠ gb198) := ⟨h13_⟩
     have n14_ : Aside0 (Below w.heap.size w w10) := ⟨h14_⟩
     clear BK198
     clear HB
     clear h0_ h1_ h2_ h3_ h4_ h5_ h6_ h7_ h8_ h9_ h10_ h11_ h12_ h13_ h14_
     have HO201 := n0_
     have BK198 := n1_
     have BK203 := n2_
     have BK204 := n3_
     have GW203 := n4_
     have GE203 := n5_
     have NB198_203 := n6_
     have NB203_198 := n7_
     have NB204_203 := n8_
     have NB203_204 := n9_
     have GW204 := n10_
     have GE204 := n11_
     have NB198_204 := n12_
     have NB204_198 := n13_
     have HB := n14_
     clear n0_ n1_ n2_ n3_ n4_ n5_ n6_ n7_ n8_ n9_ n10_ n11_ n12_ n13_ n14_
     have hHeld : w10.cell? ⟨gb198, 0, none⟩ = some (.slice A0_0 l0_0.length c0_0) ∧ w10.cell? ⟨gb198, 1, none⟩ = some (.string a0_1) ∧ w10.cell? ⟨gb198, 2, none⟩ = some (.bool a0_2) := hS_
     refine norm_ (a' := ?_) ?_ ?_
     rotate_left
     ·simp only [putAll, Act.put, List.setIfInBounds_toArray, List.set_cons_zero, List.set_cons_succ]
      rfl
     refine one_ (i := 3) (N := some 15) #[true, true, true, true, true, true, false, false] rfl rfl (one_of HT_.out (by kernel_rfl)) (by decide) (fun K hK => ?_)
     refine goes_ Tryz.func15 (by kernel_rfl) rfl #[.agg #[.slice A0_0 l0_0.length c0_0, .string a0_1, .bool a0_2]] (by rfl) rfl rfl ml ?_
     with_reducible refine (guard_Hops.calls _ _ l0_0 a0_1 a0_2 t202 _ ?side1 ?side2 A4.out).mono ?_
     (case side1 => repeat (first | exact (Kd.C_below HR0_0.out HB.out) | (with_reducible refine Kd.C_alloc ?_ _) | (with_reducible refine Kd.C_drewN ?_ _) | (with_reducible refine Kd.C_drew ?_)))
     (case side2 => exact HC0_0.out)
     rintro e w11 ⟨rfl, hb⟩
     refine ⟨_, rfl, ?_⟩
     have n0_ := Aside0.mk (Kd.R_below (kr HO201.out) hb)
     have n1_ := Aside0.mk (kb BK198.out hb)
     have n2_ := Aside0.mk (kb BK203.out hb)
     have n3_ := Aside0.mk (kb BK204.out hb)
     have n4_ := Aside0.mk (below_step bl hb)
     clear HO201
     clear BK198
     clear BK203
     clear BK204
     clear HB
     have HO201 := n0_
     have BK198 := n1_
     have BK203 := n2_
     have BK204 := n3_
     have HB := n4_
     clear n0_ n1_ n2_ n3_ n4_
     (try clear hb)
     (try clear hb2)
     (try clear hk)
     (try clear hi)
     refine hK.out _ _ ⟨(blk_cell BK198.out 0).trans rfl, (blk_cell BK198.out 1).trans rfl, (blk_cell BK198.out 2).trans rfl⟩ (fun hHeld => ?_)
     clear hK K
     refine norm_ (a' := ?_) ?_ ?_
     rotate_left
     ·show Act.put _ (some 15) _ = _
      simp only [Act.put, List.setIfInBounds_toArray, List.set_cons_zero, List.set_cons_succ, i64_w, i32_w]
      rfl
     exact norm_ (by first | (simp only [putAll, Act.put, List.setIfInBounds_toArray, List.set_cons_zero, List.set_cons_succ]; done) | (simp only [putAll, Act.put, List.setIfInBounds_toArray, List.set_cons_zero, List.set_cons_succ]; rfl)) (hJ1_3_4_5 (v200, gb203, gb204) _ ⟨hHeld, (kr HO201.out), (bk BK198.out), (bk BK203.out), (bk BK204.out), GW203.out, GE203.out, NB198_203.out, NB203_198.out, NB204_203.out, NB203_204.out, GW204.out, GE204.out, NB198_204.out, NB204_198.out, bl⟩)
   ·skip
    rintro ⟨v200, gb204⟩ w10 ⟨hS_, h0_, h1_, h2_, h3_, h4_, h5_, h6_, h7_⟩
    have n0_ : Aside0 (Kd.R k50 50 w10 w.heap.size (fun _ => True) v200 t199) := ⟨h0_⟩
    have n1_ : Aside0 (w10.heap[gb198]? = some (.cells #[.slice A0_0 l0_0.length c0_0, .string a0_1, .bool a0_2] 24 (0, 0))) := ⟨h1_⟩
    have n2_ : Aside0 (w10.heap[gb204]? = some (.cells #[.int .i64 0] 3 (0, 0))) := ⟨h2_⟩
    have n3_ : Aside0 (w.heap.size ≤ gb204) := ⟨h3_⟩
    have n4_ : Aside0 (w.heap.size ≤ gb204) := ⟨h4_⟩
    have n5_ : Aside0 (gb198 ≠ gb204) := ⟨h5_⟩
    have n6_ : Aside0 (gb204 ≠ gb198) := ⟨h6_⟩
    have n7_ : Aside0 (Below w.heap.size w w10) := ⟨h7_⟩
    clear BK198
    clear HB
    clear h0_ h1_ h2_ h3_ h4_ h5_ h6_ h7_
    have HO201 := n0_
    have BK198 := n1_
    have BK204 := n2_
    have GW204 := n3_
    have GE204 := n4_
    have NB198_204 := n5_
    have NB204_198 := n6_
    have HB := n7_
    clear n0_ n1_ n2_ n3_ n4_ n5_ n6_ n7_
    have hHeld : w10.cell? ⟨gb198, 0, none⟩ = some (.slice A0_0 l0_0.length c0_0) ∧ w10.cell? ⟨gb198, 1, none⟩ = some (.string a0_1) ∧ w10.cell? ⟨gb198, 2, none⟩ = some (.bool a0_2) := hS_
    refine norm_ (a' := ?_) ?_ ?_
    rotate_left
    ·simp only [putAll, Act.put, List.setIfInBounds_toArray, List.set_cons_zero, List.set_cons_succ]
     rfl
    refine one_ (i := 4) (N := some 6) #[true, true, true, true, true, true, false, false] rfl rfl (one_of HT_.out (by kernel_rfl)) (by decide) (fun K hK => ?_)
    refine box_step ?hg (N := 6) ?hd (cs := #[.slice none 0 0]) (t := 25) ?hr ?_; (case hd => rfl); (case hg => rfl); (case hr => first | (go_simp; done) | (go_simp; rfl))
    intro gb203 hg w11 hbox hb
    have n0_ := Aside0.mk (Kd.R_below (kr HO201.out) hb)
    have n1_ := Aside0.mk (kb BK198.out hb)
    have n2_ := Aside0.mk (kb BK204.out hb)
    have n3_ := Aside0.mk (below_step bl hb)
    have n4_ := Aside0.mk (hbox)
    have n5_ := Aside0.mk ((by rw [hg]; exact (below_size bl) : w.heap.size ≤ gb203))
    have n6_ := Aside0.mk ((by rw [hg]; exact (below_size bl) : w.heap.size ≤ gb203))
    have n7_ := Aside0.mk ((by rw [hg]; exact Nat.ne_of_lt (blk_lt (bk BK198.out)) : gb198 ≠ gb203))
    have n8_ := Aside0.mk ((by rw [hg]; exact Nat.ne_of_gt (blk_lt (bk BK198.out)) : gb203 ≠ gb198))
    have n9_ := Aside0.mk ((by rw [hg]; exact Nat.ne_of_lt (blk_lt (bk BK204.out)) : gb204 ≠ gb203))
    have n10_ := Aside0.mk ((by rw [hg]; exact Nat.ne_of_gt (blk_lt (bk BK204.out)) : gb203 ≠ gb204))
    clear HO201
    clear BK198
    clear BK204
    clear HB
    have HO201 := n0_
    have BK198 := n1_
    have BK204 := n2_
    have HB := n3_
    have BK203 := n4_
    have GW203 := n5_
    have GE203 := n6_
    have NB198_203 := n7_
    have NB203_198 := n8_
    have NB204_203 := n9_
    have NB203_204 := n10_
    clear n0_ n1_ n2_ n3_ n4_ n5_ n6_ n7_ n8_ n9_ n10_
    clear hb hbox hg
    refine hK.out _ _ ⟨(blk_cell BK198.out 0).trans rfl, (blk_cell BK198.out 1).trans rfl, (blk_cell BK198.out 2).trans rfl⟩ (fun hHeld => ?_)
    clear hK K
    refine norm_ (a' := ?_) ?_ ?_
    rotate_left
    ·show Act.put _ (some 6) _ = _
     simp only [Act.put, List.setIfInBounds_toArray, List.set_cons_zero, List.set_cons_succ, i64_w, i32_w]
     rfl
    exact norm_ (by first | (simp only [putAll, Act.put, List.setIfInBounds_toArray, List.set_cons_zero, List.set_cons_succ]; done) | (simp only [putAll, Act.put, List.setIfInBounds_toArray, List.set_cons_zero, List.set_cons_succ]; rfl)) (hJ1_3_4_5 (v200, gb203, gb204) _ ⟨hHeld, (kr HO201.out), (bk BK198.out), (bk BK203.out), (bk BK204.out), GW203.out, GE203.out, NB198_203.out, NB203_198.out, NB204_203.out, NB203_204.out, GW204.out, GE204.out, NB198_204.out, NB204_198.out, bl⟩)
  ·skip
   rintro ⟨v200, gb203⟩ w10 ⟨hS_, h0_, h1_, h2_, h3_, h4_, h5_, h6_, h7_⟩
   have n0_ : Aside0 (Kd.R k50 50 w10 w.heap.size (fun _ => True) v200 t199) := ⟨h0_⟩
   have n1_ : Aside0 (w10.heap[gb198]? = some (.cells #[.slice A0_0 l0_0.length c0_0, .string a0_1, .bool a0_2] 24 (0, 0))) := ⟨h1_⟩
   have n2_ : Aside0 (w10.heap[gb203]? = some (.cells #[.slice none 0 0] 25 (0, 0))) := ⟨h2_⟩
   have n3_ : Aside0 (w.heap.size ≤ gb203) := ⟨h3_⟩
   have n4_ : Aside0 (w.heap.size ≤ gb203) := ⟨h4_⟩
   have n5_ : Aside0 (gb198 ≠ gb203) := ⟨h5_⟩
   have n6_ : Aside0 (gb203 ≠ gb198) := ⟨h6_⟩
   have n7_ : Aside0 (Below w.heap.size w w10) := ⟨h7_⟩
   clear BK198
   clear HB
   clear h0_ h1_ h2_ h3_ h4_ h5_ h6_ h7_
   have HO201 := n0_
   have BK198 := n1_
   have BK203 := n2_
   have GW203 := n3_
   have GE203 := n4_
   have NB198_203 := n5_
   have NB203_198 := n6_
   have HB := n7_
   clear n0_ n1_ n2_ n3_ n4_ n5_ n6_ n7_
   have hHeld : w10.cell? ⟨gb198, 0, none⟩ = some (.slice A0_0 l0_0.length c0_0) ∧ w10.cell? ⟨gb198, 1, none⟩ = some (.string a0_1) ∧ w10.cell? ⟨gb198, 2, none⟩ = some (.bool a0_2) := hS_
   refine norm_ (a' := ?_) ?_ ?_
   rotate_left
   ·simp only [putAll, Act.put, List.setIfInBounds_toArray, List.set_cons_zero, List.set_cons_succ]
    rfl
   refine one_ (i := 5) (N := some 7) #[true, true, true, true, true, true, false, false] rfl rfl (one_of HT_.out (by kernel_rfl)) (by decide) (fun K hK => ?_)
   refine box_step ?hg (N := 7) ?hd (cs := #[.int .i64 0]) (t := 3) ?hr ?_; (case hd => rfl); (case hg => rfl); (case hr => first | (go_simp; done) | (go_simp; rfl))
   intro gb204 hg w11 hbox hb
   have n0_ := Aside0.mk (Kd.R_below (kr HO201.out) hb)
   have n1_ := Aside0.mk (kb BK198.out hb)
   have n2_ := Aside0.mk (kb BK203.out hb)
   have n3_ := Aside0.mk (below_step bl hb)
   have n4_ := Aside0.mk (hbox)
   have n5_ := Aside0.mk ((by rw [hg]; exact (below_size bl) : w.heap.size ≤ gb204))
   have n6_ := Aside0.mk ((by rw [hg]; exact (below_size bl) : w.heap.size ≤ gb204))
   have n7_ := Aside0.mk ((by rw [hg]; exact Nat.ne_of_lt (blk_lt (bk BK198.out)) : gb198 ≠ gb204))
   have n8_ := Aside0.mk ((by rw [hg]; exact Nat.ne_of_gt (blk_lt (bk BK198.out)) : gb204 ≠ gb198))
   have n9_ := Aside0.mk ((by rw [hg]; exact Nat.ne_of_lt (blk_lt (bk BK203.out)) : gb203 ≠ gb204))
   have n10_ := Aside0.mk ((by rw [hg]; exact Nat.ne_of_gt (blk_lt (bk BK203.out)) : gb204 ≠ gb203))
   clear HO201
   clear BK198
   clear BK203
   clear HB
   have HO201 := n0_
   have BK198 := n1_
   have BK203 := n2_
   have HB := n3_
   have BK204 := n4_
   have GW204 := n5_
   have GE204 := n6_
   have NB198_204 := n7_
   have NB204_198 := n8_
   have NB203_204 := n9_
   have NB204_203 := n10_
   clear n0_ n1_ n2_ n3_ n4_ n5_ n6_ n7_ n8_ n9_ n10_
   clear hb hbox hg
   refine hK.out _ _ ⟨(blk_cell BK198.out 0).trans rfl, (blk_cell BK198.out 1).trans rfl, (blk_cell BK198.out 2).trans rfl⟩ (fun hHeld => ?_)
   clear hK K
   refine norm_ (a' := ?_) ?_ ?_
   rotate_left
   ·show Act.put _ (some 7) _ = _
    simp only [Act.put, List.setIfInBounds_toArray, List.set_cons_zero, List.set_cons_succ, i64_w, i32_w]
    rfl
   exact norm_ (by first | (simp only [putAll, Act.put, List.setIfInBounds_toArray, List.set_cons_zero, List.set_cons_succ]; done) | (simp only [putAll, Act.put, List.setIfInBounds_toArray, List.set_cons_zero, List.set_cons_succ]; rfl)) (hJ1_3_4_5 (v200, gb203, gb204) _ ⟨hHeld, (kr HO201.out), (bk BK198.out), (bk BK203.out), (bk BK204.out), GW203.out, GE203.out, NB198_203.out, NB203_198.out, NB204_203.out, NB203_204.out, GW204.out, GE204.out, NB198_204.out, NB204_198.out, bl⟩)
 rintro ⟨v200, gb203, gb204⟩ w11 ⟨hS_, h0_, h1_, h2_, h3_, h4_, h5_, h6_, h7_, h8_, h9_, h10_, h11_, h12_, h13_, h14_⟩
 have n0_ : Aside0 (Kd.R k50 50 w11 w.heap.size (fun _ => True) v200 t199) := ⟨h0_⟩
 have n1_ : Aside0 (w11.heap[gb198]? = some (.cells #[.slice A0_0 l0_0.length c0_0, .string a0_1, .bool a0_2] 24 (0, 0))) := ⟨h1_⟩
 have n2_ : Aside0 (w11.heap[gb203]? = some (.cells #[.slice none 0 0] 25 (0, 0))) := ⟨h2_⟩
 have n3_ : Aside0 (w11.heap[gb204]? = some (.cells #[.int .i64 0] 3 (0, 0))) := ⟨h3_⟩
 have n4_ : Aside0 (w.heap.size ≤ gb203) := ⟨h4_⟩
 have n5_ : Aside0 (w.heap.size ≤ gb203) := ⟨h5_⟩
 have n6_ : Aside0 (gb198 ≠ gb203) := ⟨h6_⟩
 have n7_ : Aside0 (gb203 ≠ gb198) := ⟨h7_⟩
 have n8_ : Aside0 (gb204 ≠ gb203) := ⟨h8_⟩
 have n9_ : Aside0 (gb203 ≠ gb204) := ⟨h9_⟩
 have n10_ : Aside0 (w.heap.size ≤ gb204) := ⟨h10_⟩
 have n11_ : Aside0 (w.heap.size ≤ gb204) := ⟨h11_⟩
 have n12_ : Aside0 (gb198 ≠ gb204) := ⟨h12_⟩
 have n13_ : Aside0 (gb204 ≠ gb198) := ⟨h13_⟩
 have n14_ : Aside0 (Below w.heap.size w w11) := ⟨h14_⟩
 clear BK198
 clear HB
 clear h0_ h1_ h2_ h3_ h4_ h5_ h6_ h7_ h8_ h9_ h10_ h11_ h12_ h13_ h14_
 have HO201 := n0_
 have BK198 := n1_
 have BK203 := n2_
 have BK204 := n3_
 have GW203 := n4_
 have GE203 := n5_
 have NB198_203 := n6_
 have NB203_198 := n7_
 have NB204_203 := n8_
 have NB203_204 := n9_
 have GW204 := n10_
 have GE204 := n11_
 have NB198_204 := n12_
 have NB204_198 := n13_
 have HB := n14_
 clear n0_ n1_ n2_ n3_ n4_ n5_ n6_ n7_ n8_ n9_ n10_ n11_ n12_ n13_ n14_
 have hHeld : w11.cell? ⟨gb198, 0, none⟩ = some (.slice A0_0 l0_0.length c0_0) ∧ w11.cell? ⟨gb198, 1, none⟩ = some (.string a0_1) ∧ w11.cell? ⟨gb198, 2, none⟩ = some (.bool a0_2) := hS_
 obtain ⟨Ao12, co12, eo12⟩ := Kd.R_slice HO201.out
 (first | subst eo12 | (injection eo12 with f1_ f2_ f3_; have f4_ := f1_.symm; have f5_ := f3_.symm; clear f1_ f2_ f3_; subst f4_; subst f5_))
 refine norm_ (a' := ?_) ?_ ?_
 rotate_left
 ·simp only [putAll, Act.put, List.setIfInBounds_toArray, List.set_cons_zero, List.set_cons_succ]
  rfl
 refine one_ (i := 6) (N := none) #[true, true, true, true, true, true, true, false] rfl rfl (one_of HT_.out (by kernel_rfl)) (by decide) (fun K hK => ?_)
 have hs13 : w11.cell? ⟨gb203, 0, none⟩ = some (.slice none 0 0) := (blk_cell BK203.out 0).trans rfl
 have hfs13 := blk_frozen BK203.out 0
 have hns13_0 := NB198_203.out
 have hns13_2 := NB204_203.out
 have hms13_0 := NB203_198.out
 have hms13_2 := NB203_204.out
 refine skip_ (w1 := ?_) (by rfl) rfl ?_ ?_
 rotate_left
 ·go_simp
  rfl
 refine hK.out _ _ ⟨((cell_far (p := ⟨gb203, _, none⟩) NB198_203.out _).trans (hHeld.1)), ((cell_far (p := ⟨gb203, _, none⟩) NB198_203.out _).trans (hHeld.2.1)), ((cell_far (p := ⟨gb203, _, none⟩) NB198_203.out _).trans (hHeld.2.2))⟩ (fun hHeld => ?_)
 clear hK K
 refine one_ (i := 7) (N := none) #[true, true, true, true, true, true, true, true] rfl rfl (one_of HT_.out (by kernel_rfl)) (by decide) (fun K hK => ?_)
 have hs14 : w11.cell? ⟨gb204, 0, none⟩ = some (.int .i64 0) := (blk_cell BK204.out 0).trans rfl
 have hfs14 := blk_frozen BK204.out 0
 have hns14_0 := NB198_204.out
 have hns14_1 := NB203_204.out
 have hms14_0 := NB204_198.out
 have hms14_1 := NB204_203.out
 refine skip_ (w1 := ?_) (by rfl) rfl ?_ ?_
 rotate_left
 ·go_simp
  rfl
 refine hK.out _ _ ⟨((cell_far (p := ⟨gb204, _, none⟩) NB198_204.out _).trans (hHeld.1)), ((cell_far (p := ⟨gb204, _, none⟩) NB198_204.out _).trans (hHeld.2.1)), ((cell_far (p := ⟨gb204, _, none⟩) NB198_204.out _).trans (hHeld.2.2))⟩ (fun hHeld => ?_)
 clear hK K
 refine done_ (done_of HT_.out (by kernel_rfl)) ?_
 try go_wp2
 go_loopg [4, 5, 19] k (fun kq v4 v5 v19 w' => ∃ (x4_1 : List (S50)) (x5_1 : List (S52)) (x19_1 : Int), v19 = .int .i64 x19_1 ∧ Aside0 (guard_Check.l0 kq x4_1 x5_1 l1 (l1.length : Int) x19_1 t199 t202 = some (r1, r2)) ∧ Aside0 (kq ≤ k) ∧ Aside0 (Kd.R k50 50 w' w.heap.size (fun k_ => some k_ ≠ ((.slice Ao12 t199.length co12) : Value).ownBlock) v4 x4_1) ∧ Aside0 (Kd.R k52 52 w' w.heap.size (fun _ => True) v5 x5_1) ∧ Aside0 (Kd.R k50 50 w' w.heap.size (fun k_ => some k_ ≠ (v4 : Value).ownBlock) (.slice Ao12 t199.length co12) t199) ∧ Aside0 (w'.heap[gb198]? = some (.cells #[(.slice A0_0 l0_0.length c0_0), .string a0_1, .bool a0_2] 24 (0, 0))) ∧ Aside0 (w'.heap[gb203]? = some (.cells #[(.slice Ao12 t199.length co12)] 25 (0, 0))) ∧ Aside0 (w'.heap[gb204]? = some (.cells #[.int .i64 t202] 3 (0, 0))) ∧ Aside0 (Below w.heap.size w w'))
 case atStart => exact ⟨(([] : List (S50))), (([] : List (S52))), (0), (by first | rfl | (simp; done) | (simp [*]; done)), H', ⟨Nat.le_refl _⟩, ⟨by first | exact Kd.R_nil _ _ _ _ _ | exact Kd.N_nil _ _ _ _ _ | exact Kd.V_nil _ _ _ _ _ | exact Kd.Q_nil _ _ _ _ _ | exact Kd.S_nil _ _ _ _ _⟩, ⟨by first | exact Kd.R_nil _ _ _ _ _ | exact Kd.N_nil _ _ _ _ _ | exact Kd.V_nil _ _ _ _ _ | exact Kd.Q_nil _ _ _ _ _ | exact Kd.S_nil _ _ _ _ _⟩, ⟨by (with_reducible repeat (first | apply Kd.R_alloc | apply Kd.R_drewN | apply Kd.R_drew)); exact Kd.R_mono (Kd.R_far (p := ⟨gb204, 0, none⟩) (Kd.R_far (p := ⟨gb203, 0, none⟩) (Kd.R_types (Kd.R_types HO201.out BK203.out (by decide)) BK204.out (by decide)) (fun _ hk => hk.1.2) (.slice Ao12 t199.length co12)) (fun _ hk => hk.2) (.int .i64 t202)) (fun _ hk => (by simp [Value.ownBlock]))⟩, ⟨by (with_reducible repeat (first | refine blk_drewN ?_ _ | refine blk_drew ?_ | refine blk_alloc ?_ _)); refine blk_far ?_ NB198_204.out _; (with_reducible repeat (first | refine blk_drewN ?_ _ | refine blk_drew ?_ | refine blk_alloc ?_ _)); refine blk_far ?_ NB198_203.out _; (with_reducible repeat (first | refine blk_drewN ?_ _ | refine blk_drew ?_ | refine blk_alloc ?_ _)); exact BK198.out⟩, ⟨by (with_reducible repeat (first | refine blk_drewN ?_ _ | refine blk_drew ?_ | refine blk_alloc ?_ _)); refine blk_far ?_ NB203_204.out _; (with_reducible repeat (first | refine blk_drewN ?_ _ | refine blk_drew ?_ | refine blk_alloc ?_ _)); refine blk_put (cs := #[.slice none 0 0]) ?_ 0 _ rfl; (with_reducible repeat (first | refine blk_drewN ?_ _ | refine blk_drew ?_ | refine blk_alloc ?_ _)); exact BK203.out⟩, ⟨by (with_reducible repeat (first | refine blk_drewN ?_ _ | refine blk_drew ?_ | refine blk_alloc ?_ _)); refine blk_put (cs := #[.int .i64 0]) ?_ 0 _ rfl; (with_reducible repeat (first | refine blk_drewN ?_ _ | refine blk_drew ?_ | refine blk_alloc ?_ _)); refine blk_far ?_ NB204_203.out _; (with_reducible repeat (first | refine blk_drewN ?_ _ | refine blk_drew ?_ | refine blk_alloc ?_ _)); exact BK204.out⟩, ⟨by repeat (first | (with_reducible first | exact HB.out | apply below_alloc | apply pw_below_drewN | apply below_drew1 | refine below_set ?_ GE198.out | refine below_set ?_ GE203.out | refine below_set ?_ GE204.out) | exact HB.out)⟩⟩
 case round =>
  clear H'
  try clear c1
  try clear p2
  obtain ⟨x4_1, x5_1, x19_1, rfl, HA, HK1, HO_4, HO_5, HO_204000, BK198, BK203, BK204, HB⟩ := hrel
  cases gk with
  | zero => exact absurd HA.out (by simp [guard_Check.l0])
  | succ k1 =>
   have H := HA.out
   clear HA
   simp only [guard_Check.l0] at H
   by_cases c15 : x19_1 < (l1.length : Int)
   ·rw [if_pos c15] at H
    have c15b0 : decide (x19_1 < (l1.length : Int)) = true := decide_eq_true c15
    clear c15
    by_cases c16 : 0 ≤ x19_1
    ·rw [if_pos c16] at H
     have c16b0 : decide (0 ≤ x19_1) = true := decide_eq_true c16
     clear c16
     by_cases c17 : x19_1 < (l1.length : Int)
     ·rw [if_pos c17] at H
      have c17b0 : decide (x19_1 < (l1.length : Int)) = true := decide_eq_true c17
      clear c17
      replace H := Option.bind_eq_some_iff.mp H
      obtain ⟨t207, A180, H⟩ := H
      replace H : (if t207.toList = ([] : List UInt8) then (if x4_1.length < 4398046511104 then (guard_Check.l0 k1 (x4_1 ++ [(⟨(rd_T50 l1 x19_1).f0, (rd_T50 l1 x19_1).f1⟩ : S50)]) x5_1 l1 (l1.length : Int) (wrap64 (x19_1 + 1)) t199 t202) else (none)) else (if x5_1.length < 2513169434916 then (guard_Check.l0 k1 x4_1 (x5_1 ++ [(⟨(⟨(rd_T50 l1 x19_1).f0, (rd_T50 l1 x19_1).f1⟩ : S50), 554, t207⟩ : S52)]) l1 (l1.length : Int) (wrap64 (x19_1 + 1)) t199 t202) else (none))) = some (r1, r2) := H
      have A18 := Aside0.mk A180
      clear A180
      by_cases c19 : t207.toList = ([] : List UInt8)
      ·rw [if_pos c19] at H
       have c19b0 : (t207.toList == ([] : List UInt8)) = true := beq_iff_eq.mpr c19
       have c19b1 : (t207.toList != ([] : List UInt8)) = false := bne_eq_false_iff_eq.mpr c19
       clear c19
       by_cases c20 : x4_1.length < 4398046511104
       ·rw [if_pos c20] at H
        have LMc20 := Aside0.mk c20
        clear c20
        obtain ⟨y208, hy208⟩ : ∃ y_ : List (S50), y_ = (x4_1 ++ [(⟨(rd_T50 l1 x19_1).f0, (rd_T50 l1 x19_1).f1⟩ : S50)]) := ⟨_, rfl⟩
        replace H : (guard_Check.l0 k1 y208 x5_1 l1 (l1.length : Int) (wrap64 (x19_1 + 1)) t199 t202) = some (r1, r2) := by first | (rw [hy208]; with_reducible exact H) | (have H2_ := (Option.bind_some _ _).symm.trans H; rw [hy208]; with_reducible exact H2_) | (have H2_ := (Option.bind_some _ _).symm.trans H; with_reducible exact H2_) | with_reducible exact H | (rw [hy208]; exact H) | exact H
        have Ny208 := Aside0.mk hy208
        clear hy208
        have H' := Aside0.mk H
        clear H
        have p205 : 0 ≤ (x19_1 : Int) := od
        have q205 : x19_1 < (l1.length : Int) := od
        obtain ⟨ad205, e205, hx205_0, hx205_1⟩ := at_T50 HR1.out x19_1 p205 q205
        cases e205
        replace hx205_0 := (HB.out.cell (World.block_lt_of_cell? w _ hx205_0)).trans hx205_0
        replace hx205_1 := (HB.out.cell (World.block_lt_of_cell? w _ hx205_1)).trans hx205_1
        replace p205 := eq_true p205
        replace q205 := eq_true q205
        go_wp2_with (first | ((with_reducible refine gate_dst (N := 10) rfl ?_); refine box_event ?hg (N := 10) ?hd (cs := #[.string (⟨#[]⟩ : ByteArray), .string (⟨#[]⟩ : ByteArray)]) (t := 50) ?hr ?_; (case hd => rfl); (case hg => rfl); (case hr => first | (go_simp; done) | (go_simp; rfl)); intro gb206 hg w21 hbox hb; have n0_ := Aside0.mk (Kd.R_below (Kd.R_elderB (kr HO_4.out) gb206 (Nat.le_of_eq hg.symm)) hb); have n1_ := Aside0.mk (Kd.R_below (kr HO_5.out) hb); have n2_ := Aside0.mk (Kd.R_below (Kd.R_elderB (kr HO_204000.out) gb206 (Nat.le_of_eq hg.symm)) hb); have n3_ := Aside0.mk (kb BK198.out hb); have n4_ := Aside0.mk (kb BK203.out hb); have n5_ := Aside0.mk (kb BK204.out hb); have n6_ := Aside0.mk (below_step bl hb); have n7_ := Aside0.mk (hbox); have n8_ := Aside0.mk ((by rw [hg]; exact (below_size bl) : w.heap.size ≤ gb206)); have n9_ := Aside0.mk ((by rw [hg]; exact (below_size bl) : w.heap.size ≤ gb206)); have n10_ := Aside0.mk ((by rw [hg]; exact Nat.ne_of_lt (blk_lt (bk BK198.out)) : gb198 ≠ gb206)); have n11_ := Aside0.mk ((by rw [hg]; exact Nat.ne_of_gt (blk_lt (bk BK198.out)) : gb206 ≠ gb198)); have n12_ := Aside0.mk ((by rw [hg]; exact Nat.ne_of_lt (blk_lt (bk BK203.out)) : gb203 ≠ gb206)); have n13_ := Aside0.mk ((by rw [hg]; exact Nat.ne_of_gt (blk_lt (bk BK203.out)) : gb206 ≠ gb203)); have n14_ := Aside0.mk ((by rw [hg]; exact Nat.ne_of_lt (blk_lt (bk BK204.out)) : gb204 ≠ gb206)); have n15_ := Aside0.mk ((by rw [hg]; exact Nat.ne_of_gt (blk_lt (bk BK204.out)) : gb206 ≠ gb204)); clear HO_4; clear HO_5; clear HO_204000; clear BK198; clear BK203; clear BK204; clear HB; have HO_4 := n0_; have HO_5 := n1_; have HO_204000 := n2_; have BK198 := n3_; have BK203 := n4_; have BK204 := n5_; have HB := n6_; have BK206 := n7_; have GW206 := n8_; have GE206 := n9_; have NB198_206 := n10_; have NB206_198 := n11_; have NB203_206 := n12_; have NB206_203 := n13_; have NB204_206 := n14_; have NB206_204 := n15_; clear n0_ n1_ n2_ n3_ n4_ n5_ n6_ n7_ n8_ n9_ n10_ n11_ n12_ n13_ n14_ n15_; clear hb hbox hg; have hnb22 := NB206_198.out; have hnc22 := NB198_206.out; have hnb23 := NB206_203.out; have hnc23 := NB203_206.out; have hnb24 := NB206_204.out; have hnc24 := NB204_206.out; have hcz25_0 : w21.cell? ⟨gb206, 0, none⟩ = some (.string (⟨#[]⟩ : ByteArray)) := (blk_cell BK206.out 0).trans rfl; have hcz25_1 : w21.cell? ⟨gb206, 1, none⟩ = some (.string (⟨#[]⟩ : ByteArray)) := (blk_cell BK206.out 1).trans rfl; have hfz25_0 := blk_frozen BK206.out 0; have hfz25_1 := blk_frozen BK206.out 1) | (go_at_call 39; (with_reducible refine (guard_Check_1.calls k1 ((rd_T50 l1 x19_1).f0) ((rd_T50 l1 x19_1).f1) t202 Ao12 co12 t199 t207 _ ?side1 ?side2 ?side3 ?side4 A18.out).mono ?_); (case side1 => refine (Kd.R_reads' (e := 50) (base := w.heap.size) (ok := fun k_ => (some k_ ≠ (u4 : Value).ownBlock ∧ k_ ≠ gb206)) (n := t199.length) (c := co12) ?_).2.2; exact (by (with_reducible repeat (first | apply Kd.R_alloc | apply Kd.R_drewN | apply Kd.R_drew)); exact (Kd.R_mono (Kd.R_far (p := ⟨gb206, 1, none⟩) (Kd.R_far (p := ⟨gb206, 0, none⟩) (Kd.R_mono HO_204000.out (fun k_ hk => (⟨hk, hk.2⟩ : _ ∧ k_ ≠ gb206))) (fun _ hk => hk.2) (.string ((rd_T50 l1 x19_1).f0))) (fun _ hk => hk.2) (.string ((rd_T50 l1 x19_1).f1))) (fun _ h_ => h_.1)))); (case side2 => exact (Kd.R_reads' HO_204000.out).2.1); (case side3 => exact by (with_reducible repeat (first | refine blk_drewN ?_ _ | refine blk_drew ?_ | refine blk_alloc ?_ _)); refine blk_far ?_ NB204_206.out _; (with_reducible repeat (first | refine blk_drewN ?_ _ | refine blk_drew ?_ | refine blk_alloc ?_ _)); refine blk_far ?_ NB204_206.out _; (with_reducible repeat (first | refine blk_drewN ?_ _ | refine blk_drew ?_ | refine blk_alloc ?_ _)); exact BK204.out); (case side4 => exact by (with_reducible repeat (first | refine blk_drewN ?_ _ | refine blk_drew ?_ | refine blk_alloc ?_ _)); refine blk_far ?_ NB203_206.out _; (with_reducible repeat (first | refine blk_drewN ?_ _ | refine blk_drew ?_ | refine blk_alloc ?_ _)); refine blk_far ?_ NB203_206.out _; (with_reducible repeat (first | refine blk_drewN ?_ _ | refine blk_drew ?_ | refine blk_alloc ?_ _)); exact BK203.out); rintro e w26 ⟨rfl, hb⟩; have n0_ := Aside0.mk (Kd.R_below (by (with_reducible repeat (first | apply Kd.R_alloc | apply Kd.R_drewN | apply Kd.R_drew)); exact (Kd.R_mono (Kd.R_far (p := ⟨gb206, 1, none⟩) (Kd.R_far (p := ⟨gb206, 0, none⟩) (Kd.R_mono HO_4.out (fun k_ hk => (⟨hk, hk.2⟩ : _ ∧ k_ ≠ gb206))) (fun _ hk => hk.2) (.string ((rd_T50 l1 x19_1).f0))) (fun _ hk => hk.2) (.string ((rd_T50 l1 x19_1).f1))) (fun _ h_ => h_.1))) hb); have n1_ := Aside0.mk (Kd.R_below (by (with_reducible repeat (first | apply Kd.R_alloc | apply Kd.R_drewN | apply Kd.R_drew)); exact (Kd.R_mono (Kd.R_far (p := ⟨gb206, 1, none⟩) (Kd.R_far (p := ⟨gb206, 0, none⟩) (Kd.R_types HO_5.out BK206.out (by decide)) (fun _ hk => hk.2) (.string ((rd_T50 l1 x19_1).f0))) (fun _ hk => hk.2) (.string ((rd_T50 l1 x19_1).f1))) (fun _ h_ => h_.1))) hb); have n2_ := Aside0.mk (Kd.R_below (by (with_reducible repeat (first | apply Kd.R_alloc | apply Kd.R_drewN | apply Kd.R_drew)); exact (Kd.R_mono (Kd.R_far (p := ⟨gb206, 1, none⟩) (Kd.R_far (p := ⟨gb206, 0, none⟩) (Kd.R_mono HO_204000.out (fun k_ hk => (⟨hk, hk.2⟩ : _ ∧ k_ ≠ gb206))) (fun _ hk => hk.2) (.string ((rd_T50 l1 x19_1).f0))) (fun _ hk => hk.2) (.string ((rd_T50 l1 x19_1).f1))) (fun _ h_ => h_.1))) hb); have n3_ := Aside0.mk (kb BK198.out hb); have n4_ := Aside0.mk (kb BK203.out hb); have n5_ := Aside0.mk (kb BK204.out hb); have n6_ := Aside0.mk (blk_below (g := gb206) (o := .cells #[.string ((rd_T50 l1 x19_1).f0), .string ((rd_T50 l1 x19_1).f1)] 50 (0, 0)) (by (with_reducible repeat (first | refine blk_drewN ?_ _ | refine blk_drew ?_ | refine blk_alloc ?_ _)); refine blk_put (cs := #[.string ((rd_T50 l1 x19_1).f0), .string (⟨#[]⟩ : ByteArray)]) ?_ 1 _ rfl; (with_reducible repeat (first | refine blk_drewN ?_ _ | refine blk_drew ?_ | refine blk_alloc ?_ _)); refine blk_put (cs := #[.string (⟨#[]⟩ : ByteArray), .string (⟨#[]⟩ : ByteArray)]) ?_ 0 _ rfl; (with_reducible repeat (first | refine blk_drewN ?_ _ | refine blk_drew ?_ | refine blk_alloc ?_ _)); exact BK206.out) hb); have n7_ := Aside0.mk (below_step bl hb); clear HO_4; clear HO_5; clear HO_204000; clear BK198; clear BK203; clear BK204; clear BK206; clear HB; have HO_4 := n0_; have HO_5 := n1_; have HO_204000 := n2_; have BK198 := n3_; have BK203 := n4_; have BK204 := n5_; have BK206 := n6_; have HB := n7_; clear n0_ n1_ n2_ n3_ n4_ n5_ n6_ n7_; (try clear hb); (try clear hb2); (try clear hk); (try clear hi); have hcz27_0 : w26.cell? ⟨gb206, 0, none⟩ = some (.string ((rd_T50 l1 x19_1).f0)) := (blk_cell BK206.out 0).trans rfl; have hcz27_1 : w26.cell? ⟨gb206, 1, none⟩ = some (.string ((rd_T50 l1 x19_1).f1)) := (blk_cell BK206.out 1).trans rfl; have hfz27_0 := blk_frozen BK206.out 0; have hfz27_1 := blk_frozen BK206.out 1) | ((with_reducible refine gate_builtin (b := .append) (xs := #[.tmp 34, .tmp 36]) rfl ?_); at_builtin; refine Kd.R_append k50 (w0 := w) w.heap.size rfl (.tmp 34) (.tmp 36) 25 50 (.agg #[(.string ⟨#[]⟩), (.string ⟨#[]⟩)]) 32 rfl Tryz.underlying25 info50 rfl (by decide) (by omega) u4 x4_1 (⟨(rd_T50 l1 x19_1).f0, (rd_T50 l1 x19_1).f1⟩ : S50) [.string ((rd_T50 l1 x19_1).f0), .string ((rd_T50 l1 x19_1).f1)] (fun k_ => some k_ ≠ (.slice Ao12 t199.length co12 : Value).ownBlock ∧ k_ ≠ gb206) (fun _ => False) rfl rfl ?aP (fun _ hk => hk.elim) ?aF ?aO ?aB ?aS ?aL ?_; (case aP => exact k50_mkM _ _ _ (⟨(rd_T50 l1 x19_1).f0, (rd_T50 l1 x19_1).f1⟩ : S50)); (case aB => exact bl); (case aF => exact (fun k_ hk => ⟨Kd.fresh' (Kd.R_lt (kr HO_204000.out)) k_ hk, Kd.freshB (g := gb206) (o := .cells #[.string ((rd_T50 l1 x19_1).f0), .string ((rd_T50 l1 x19_1).f1)] 50 (0, 0)) (bk BK206.out) k_ hk⟩)); (case aO => exact (kr HO_4.out)); (case aS => exact (below_size bl)); (case aL => have := LMc20.out; omega); intro v209 w28 ho hb hg hat; rw [← Ny208.out] at ho; have n0_ := Aside0.mk (Kd.R_over' (kr HO_5.out) (Kd.R_typed (kr HO_4.out)) (by decide) hg); have n1_ := Aside0.mk (Kd.R_after (ok := (fun k_ => k_ ≠ gb206)) (by (with_reducible repeat (first | apply Kd.R_alloc | apply Kd.R_drewN | apply Kd.R_drew)); exact Kd.R_mono HO_204000.out (fun _ hk => ⟨hk.2, hk.1⟩)) hg hat); have n2_ := Aside0.mk (blk_grown (g := gb198) (o := .cells #[.slice A0_0 l0_0.length c0_0, .string a0_1, .bool a0_2] 24 (0, 0)) (bk BK198.out) hg (Kd.R_ne HO_4.out BK198.out (by decide))); have n3_ := Aside0.mk (blk_grown (g := gb203) (o := .cells #[.slice Ao12 t199.length co12] 25 (0, 0)) (bk BK203.out) hg (Kd.R_ne HO_4.out BK203.out (by decide))); have n4_ := Aside0.mk (blk_grown (g := gb204) (o := .cells #[.int .i64 t202] 3 (0, 0)) (bk BK204.out) hg (Kd.R_ne HO_4.out BK204.out (by decide))); have n5_ := Aside0.mk (blk_grown (g := gb206) (o := .cells #[.string ((rd_T50 l1 x19_1).f0), .string ((rd_T50 l1 x19_1).f1)] 50 (0, 0)) (bk BK206.out) hg (Kd.R_away HO_4.out (fun _ hk => hk.2))); have n6_ := Aside0.mk (hb); have n7_ := Aside0.mk (ho); clear HO_5; clear HO_204000; clear BK198; clear BK203; clear BK204; clear BK206; clear HB; clear HO_4; have HO_5 := n0_; have HO_204000 := n1_; have BK198 := n2_; have BK203 := n3_; have BK204 := n4_; have BK206 := n5_; have HB := n6_; have HO210 := n7_; clear n0_ n1_ n2_ n3_ n4_ n5_ n6_ n7_; clear ho hb hg hat))
        go_roundg k1
        case measure => have := HK1.out; omega
        case rel => exact ⟨(y208), (x5_1), (wrap64 (x19_1 + 1)), (by first | rfl | (simp; done) | (simp [*]; done)), H', ⟨by have := HK1.out; omega⟩, ⟨by (with_reducible repeat (first | apply Kd.R_alloc | apply Kd.R_drewN | apply Kd.R_drew)); exact Kd.R_mono HO210.out (fun _ hk => hk.1)⟩, ⟨by (with_reducible repeat (first | apply Kd.R_alloc | apply Kd.R_drewN | apply Kd.R_drew)); exact HO_5.out⟩, ⟨by (with_reducible repeat (first | apply Kd.R_alloc | apply Kd.R_drewN | apply Kd.R_drew)); exact Kd.R_mono HO_204000.out (fun _ hk => hk.2)⟩, ⟨by (with_reducible repeat (first | refine blk_drewN ?_ _ | refine blk_drew ?_ | refine blk_alloc ?_ _)); exact BK198.out⟩, ⟨by (with_reducible repeat (first | refine blk_drewN ?_ _ | refine blk_drew ?_ | refine blk_alloc ?_ _)); exact BK203.out⟩, ⟨by (with_reducible repeat (first | refine blk_drewN ?_ _ | refine blk_drew ?_ | refine blk_alloc ?_ _)); exact BK204.out⟩, ⟨by repeat (first | (with_reducible first | exact HB.out | apply below_alloc | apply pw_below_drewN | apply below_drew1 | refine below_set ?_ GE198.out | refine below_set ?_ GE203.out | refine below_set ?_ GE204.out | refine below_set ?_ GE206.out) | exact HB.out)⟩⟩
       ·rw [if_neg c20] at H
        exact absurd H (by simp)
      ·rw [if_neg c19] at H
       have c19b0 : (t207.toList == ([] : List UInt8)) = false := beq_eq_false_iff_ne.mpr c19
       have c19b1 : (t207.toList != ([] : List UInt8)) = true := bne_iff_ne.mpr c19
       by_cases c29 : x5_1.length < 2513169434916
       ·rw [if_pos c29] at H
        have LMc29 := Aside0.mk c29
        clear c29
        obtain ⟨y211, hy211⟩ : ∃ y_ : List (S52), y_ = (x5_1 ++ [(⟨(⟨(rd_T50 l1 x19_1).f0, (rd_T50 l1 x19_1).f1⟩ : S50), 554, t207⟩ : S52)]) := ⟨_, rfl⟩
        replace H : (guard_Check.l0 k1 x4_1 y211 l1 (l1.length : Int) (wrap64 (x19_1 + 1)) t199 t202) = some (r1, r2) := by first | (rw [hy211]; with_reducible exact H) | (have H2_ := (Option.bind_some _ _).symm.trans H; rw [hy211]; with_reducible exact H2_) | (have H2_ := (Option.bind_some _ _).symm.trans H; with_reducible exact H2_) | with_reducible exact H | (rw [hy211]; exact H) | exact H
        have Ny211 := Aside0.mk hy211
        clear hy211
        have H' := Aside0.mk H
        clear H
        have p205 : 0 ≤ (x19_1 : Int) := od
        have q205 : x19_1 < (l1.length : Int) := od
        obtain ⟨ad205, e205, hx205_0, hx205_1⟩ := at_T50 HR1.out x19_1 p205 q205
        cases e205
        replace hx205_0 := (HB.out.cell (World.block_lt_of_cell? w _ hx205_0)).trans hx205_0
        replace hx205_1 := (HB.out.cell (World.block_lt_of_cell? w _ hx205_1)).trans hx205_1
        replace p205 := eq_true p205
        replace q205 := eq_true q205
        go_wp2_with (first | ((with_reducible refine gate_dst (N := 10) rfl ?_); refine box_event ?hg (N := 10) ?hd (cs := #[.string (⟨#[]⟩ : ByteArray), .string (⟨#[]⟩ : ByteArray)]) (t := 50) ?hr ?_; (case hd => rfl); (case hg => rfl); (case hr => first | (go_simp; done) | (go_simp; rfl)); intro gb206 hg w30 hbox hb; have n0_ := Aside0.mk (Kd.R_below (Kd.R_elderB (kr HO_4.out) gb206 (Nat.le_of_eq hg.symm)) hb); have n1_ := Aside0.mk (Kd.R_below (kr HO_5.out) hb); have n2_ := Aside0.mk (Kd.R_below (Kd.R_elderB (kr HO_204000.out) gb206 (Nat.le_of_eq hg.symm)) hb); have n3_ := Aside0.mk (kb BK198.out hb); have n4_ := Aside0.mk (kb BK203.out hb); have n5_ := Aside0.mk (kb BK204.out hb); have n6_ := Aside0.mk (below_step bl hb); have n7_ := Aside0.mk (hbox); have n8_ := Aside0.mk ((by rw [hg]; exact (below_size bl) : w.heap.size ≤ gb206)); have n9_ := Aside0.mk ((by rw [hg]; exact (below_size bl) : w.heap.size ≤ gb206)); have n10_ := Aside0.mk ((by rw [hg]; exact Nat.ne_of_lt (blk_lt (bk BK198.out)) : gb198 ≠ gb206)); have n11_ := Aside0.mk ((by rw [hg]; exact Nat.ne_of_gt (blk_lt (bk BK198.out)) : gb206 ≠ gb198)); have n12_ := Aside0.mk ((by rw [hg]; exact Nat.ne_of_lt (blk_lt (bk BK203.out)) : gb203 ≠ gb206)); have n13_ := Aside0.mk ((by rw [hg]; exact Nat.ne_of_gt (blk_lt (bk BK203.out)) : gb206 ≠ gb203)); have n14_ := Aside0.mk ((by rw [hg]; exact Nat.ne_of_lt (blk_lt (bk BK204.out)) : gb204 ≠ gb206)); have n15_ := Aside0.mk ((by rw [hg]; exact Nat.ne_of_gt (blk_lt (bk BK204.out)) : gb206 ≠ gb204)); clear HO_4; clear HO_5; clear HO_204000; clear BK198; clear BK203; clear BK204; clear HB; have HO_4 := n0_; have HO_5 := n1_; have HO_204000 := n2_; have BK198 := n3_; have BK203 := n4_; have BK204 := n5_; have HB := n6_; have BK206 := n7_; have GW206 := n8_; have GE206 := n9_; have NB198_206 := n10_; have NB206_198 := n11_; have NB203_206 := n12_; have NB206_203 := n13_; have NB204_206 := n14_; have NB206_204 := n15_; clear n0_ n1_ n2_ n3_ n4_ n5_ n6_ n7_ n8_ n9_ n10_ n11_ n12_ n13_ n14_ n15_; clear hb hbox hg; have hnb31 := NB206_198.out; have hnc31 := NB198_206.out; have hnb32 := NB206_203.out; have hnc32 := NB203_206.out; have hnb33 := NB206_204.out; have hnc33 := NB204_206.out; have hcz34_0 : w30.cell? ⟨gb206, 0, none⟩ = some (.string (⟨#[]⟩ : ByteArray)) := (blk_cell BK206.out 0).trans rfl; have hcz34_1 : w30.cell? ⟨gb206, 1, none⟩ = some (.string (⟨#[]⟩ : ByteArray)) := (blk_cell BK206.out 1).trans rfl; have hfz34_0 := blk_frozen BK206.out 0; have hfz34_1 := blk_frozen BK206.out 1) | (go_at_call 39; (with_reducible refine (guard_Check_1.calls k1 ((rd_T50 l1 x19_1).f0) ((rd_T50 l1 x19_1).f1) t202 Ao12 co12 t199 t207 _ ?side1 ?side2 ?side3 ?side4 A18.out).mono ?_); (case side1 => refine (Kd.R_reads' (e := 50) (base := w.heap.size) (ok := fun k_ => (some k_ ≠ (u4 : Value).ownBlock ∧ k_ ≠ gb206)) (n := t199.length) (c := co12) ?_).2.2; exact (by (with_reducible repeat (first | apply Kd.R_alloc | apply Kd.R_drewN | apply Kd.R_drew)); exact (Kd.R_mono (Kd.R_far (p := ⟨gb206, 1, none⟩) (Kd.R_far (p := ⟨gb206, 0, none⟩) (Kd.R_mono HO_204000.out (fun k_ hk => (⟨hk, hk.2⟩ : _ ∧ k_ ≠ gb206))) (fun _ hk => hk.2) (.string ((rd_T50 l1 x19_1).f0))) (fun _ hk => hk.2) (.string ((rd_T50 l1 x19_1).f1))) (fun _ h_ => h_.1)))); (case side2 => exact (Kd.R_reads' HO_204000.out).2.1); (case side3 => exact by (with_reducible repeat (first | refine blk_drewN ?_ _ | refine blk_drew ?_ | refine blk_alloc ?_ _)); refine blk_far ?_ NB204_206.out _; (with_reducible repeat (first | refine blk_drewN ?_ _ | refine blk_drew ?_ | refine blk_alloc ?_ _)); refine blk_far ?_ NB204_206.out _; (with_reducible repeat (first | refine blk_drewN ?_ _ | refine blk_drew ?_ | refine blk_alloc ?_ _)); exact BK204.out); (case side4 => exact by (with_reducible repeat (first | refine blk_drewN ?_ _ | refine blk_drew ?_ | refine blk_alloc ?_ _)); refine blk_far ?_ NB203_206.out _; (with_reducible repeat (first | refine blk_drewN ?_ _ | refine blk_drew ?_ | refine blk_alloc ?_ _)); refine blk_far ?_ NB203_206.out _; (with_reducible repeat (first | refine blk_drewN ?_ _ | refine blk_drew ?_ | refine blk_alloc ?_ _)); exact BK203.out); rintro e w35 ⟨rfl, hb⟩; have n0_ := Aside0.mk (Kd.R_below (by (with_reducible repeat (first | apply Kd.R_alloc | apply Kd.R_drewN | apply Kd.R_drew)); exact (Kd.R_mono (Kd.R_far (p := ⟨gb206, 1, none⟩) (Kd.R_far (p := ⟨gb206, 0, none⟩) (Kd.R_mono HO_4.out (fun k_ hk => (⟨hk, hk.2⟩ : _ ∧ k_ ≠ gb206))) (fun _ hk => hk.2) (.string ((rd_T50 l1 x19_1).f0))) (fun _ hk => hk.2) (.string ((rd_T50 l1 x19_1).f1))) (fun _ h_ => h_.1))) hb); have n1_ := Aside0.mk (Kd.R_below (by (with_reducible repeat (first | apply Kd.R_alloc | apply Kd.R_drewN | apply Kd.R_drew)); exact (Kd.R_mono (Kd.R_far (p := ⟨gb206, 1, none⟩) (Kd.R_far (p := ⟨gb206, 0, none⟩) (Kd.R_types HO_5.out BK206.out (by decide)) (fun _ hk => hk.2) (.string ((rd_T50 l1 x19_1).f0))) (fun _ hk => hk.2) (.string ((rd_T50 l1 x19_1).f1))) (fun _ h_ => h_.1))) hb); have n2_ := Aside0.mk (Kd.R_below (by (with_reducible repeat (first | apply Kd.R_alloc | apply Kd.R_drewN | apply Kd.R_drew)); exact (Kd.R_mono (Kd.R_far (p := ⟨gb206, 1, none⟩) (Kd.R_far (p := ⟨gb206, 0, none⟩) (Kd.R_mono HO_204000.out (fun k_ hk => (⟨hk, hk.2⟩ : _ ∧ k_ ≠ gb206))) (fun _ hk => hk.2) (.string ((rd_T50 l1 x19_1).f0))) (fun _ hk => hk.2) (.string ((rd_T50 l1 x19_1).f1))) (fun _ h_ => h_.1))) hb); have n3_ := Aside0.mk (kb BK198.out hb); have n4_ := Aside0.mk (kb BK203.out hb); have n5_ := Aside0.mk (kb BK204.out hb); have n6_ := Aside0.mk (blk_below (g := gb206) (o := .cells #[.string ((rd_T50 l1 x19_1).f0), .string ((rd_T50 l1 x19_1).f1)] 50 (0, 0)) (by (with_reducible repeat (first | refine blk_drewN ?_ _ | refine blk_drew ?_ | refine blk_alloc ?_ _)); refine blk_put (cs := #[.string ((rd_T50 l1 x19_1).f0), .string (⟨#[]⟩ : ByteArray)]) ?_ 1 _ rfl; (with_reducible repeat (first | refine blk_drewN ?_ _ | refine blk_drew ?_ | refine blk_alloc ?_ _)); refine blk_put (cs := #[.string (⟨#[]⟩ : ByteArray), .string (⟨#[]⟩ : ByteArray)]) ?_ 0 _ rfl; (with_reducible repeat (first | refine blk_drewN ?_ _ | refine blk_drew ?_ | refine blk_alloc ?_ _)); exact BK206.out) hb); have n7_ := Aside0.mk (below_step bl hb); clear HO_4; clear HO_5; clear HO_204000; clear BK198; clear BK203; clear BK204; clear BK206; clear HB; have HO_4 := n0_; have HO_5 := n1_; have HO_204000 := n2_; have BK198 := n3_; have BK203 := n4_; have BK204 := n5_; have BK206 := n6_; have HB := n7_; clear n0_ n1_ n2_ n3_ n4_ n5_ n6_ n7_; (try clear hb); (try clear hb2); (try clear hk); (try clear hi); have hcz36_0 : w35.cell? ⟨gb206, 0, none⟩ = some (.string ((rd_T50 l1 x19_1).f0)) := (blk_cell BK206.out 0).trans rfl; have hcz36_1 : w35.cell? ⟨gb206, 1, none⟩ = some (.string ((rd_T50 l1 x19_1).f1)) := (blk_cell BK206.out 1).trans rfl; have hfz36_0 := blk_frozen BK206.out 0; have hfz36_1 := blk_frozen BK206.out 1) | ((with_reducible refine gate_builtin (b := .append) (xs := #[.tmp 28, .tmp 32]) rfl ?_); at_builtin; refine Kd.R_append k52 (w0 := w) w.heap.size rfl (.tmp 28) (.tmp 32) 32 52 (.agg #[(.string ⟨#[]⟩), (.string ⟨#[]⟩), (.int .i64 0), (.string ⟨#[]⟩)]) 56 rfl Tryz.underlying32 info52 rfl (by decide) (by omega) u5 x5_1 (⟨(⟨(rd_T50 l1 x19_1).f0, (rd_T50 l1 x19_1).f1⟩ : S50), 554, t207⟩ : S52) [.string ((rd_T50 l1 x19_1).f0), .string ((rd_T50 l1 x19_1).f1), .int .i64 554, .string t207] (fun _ => True) (fun _ => False) rfl rfl ?aP (fun _ hk => hk.elim) ?aF ?aO ?aB ?aS ?aL ?_; (case aP => exact k52_mkM _ _ _ (⟨(⟨(rd_T50 l1 x19_1).f0, (rd_T50 l1 x19_1).f1⟩ : S50), 554, t207⟩ : S52)); (case aB => exact bl); (case aF => exact (fun _ _ => trivial)); (case aO => exact (kr HO_5.out)); (case aS => exact (below_size bl)); (case aL => have := LMc29.out; omega); intro v212 w37 ho hb hg hat; rw [← Ny211.out] at ho; have n0_ := Aside0.mk (Kd.R_over' (kr HO_4.out) (Kd.R_typed (kr HO_5.out)) (by decide) hg); have n1_ := Aside0.mk (Kd.R_over' (kr HO_204000.out) (Kd.R_typed (kr HO_5.out)) (by decide) hg); have n2_ := Aside0.mk (blk_grown (g := gb198) (o := .cells #[.slice A0_0 l0_0.length c0_0, .string a0_1, .bool a0_2] 24 (0, 0)) (bk BK198.out) hg (Kd.R_ne HO_5.out BK198.out (by decide))); have n3_ := Aside0.mk (blk_grown (g := gb203) (o := .cells #[.slice Ao12 t199.length co12] 25 (0, 0)) (bk BK203.out) hg (Kd.R_ne HO_5.out BK203.out (by decide))); have n4_ := Aside0.mk (blk_grown (g := gb204) (o := .cells #[.int .i64 t202] 3 (0, 0)) (bk BK204.out) hg (Kd.R_ne HO_5.out BK204.out (by decide))); have n5_ := Aside0.mk (blk_grown (g := gb206) (o := .cells #[.string ((rd_T50 l1 x19_1).f0), .string ((rd_T50 l1 x19_1).f1)] 50 (0, 0)) (bk BK206.out) hg (Kd.R_ne HO_5.out BK206.out (by decide))); have n6_ := Aside0.mk (hb); have n7_ := Aside0.mk (ho); clear HO_4; clear HO_204000; clear BK198; clear BK203; clear BK204; clear BK206; clear HB; clear HO_5; have HO_4 := n0_; have HO_204000 := n1_; have BK198 := n2_; have BK203 := n3_; have BK204 := n4_; have BK206 := n5_; have HB := n6_; have HO213 := n7_; clear n0_ n1_ n2_ n3_ n4_ n5_ n6_ n7_; clear ho hb hg hat))
        go_roundg k1
        case measure => have := HK1.out; omega
        case rel => exact ⟨(x4_1), (y211), (wrap64 (x19_1 + 1)), (by first | rfl | (simp; done) | (simp [*]; done)), H', ⟨by have := HK1.out; omega⟩, ⟨by (with_reducible repeat (first | apply Kd.R_alloc | apply Kd.R_drewN | apply Kd.R_drew)); exact Kd.R_mono HO_4.out (fun _ hk => hk.1)⟩, ⟨by (with_reducible repeat (first | apply Kd.R_alloc | apply Kd.R_drewN | apply Kd.R_drew)); exact HO213.out⟩, ⟨by (with_reducible repeat (first | apply Kd.R_alloc | apply Kd.R_drewN | apply Kd.R_drew)); exact Kd.R_mono HO_204000.out (fun _ hk => hk.1)⟩, ⟨by (with_reducible repeat (first | refine blk_drewN ?_ _ | refine blk_drew ?_ | refine blk_alloc ?_ _)); exact BK198.out⟩, ⟨by (with_reducible repeat (first | refine blk_drewN ?_ _ | refine blk_drew ?_ | refine blk_alloc ?_ _)); exact BK203.out⟩, ⟨by (with_reducible repeat (first | refine blk_drewN ?_ _ | refine blk_drew ?_ | refine blk_alloc ?_ _)); exact BK204.out⟩, ⟨by repeat (first | (with_reducible first | exact HB.out | apply below_alloc | apply pw_below_drewN | apply below_drew1 | refine below_set ?_ GE198.out | refine below_set ?_ GE203.out | refine below_set ?_ GE204.out | refine below_set ?_ GE206.out) | exact HB.out)⟩⟩
       ·rw [if_neg c29] at H
        exact absurd H (by simp)
     ·rw [if_neg c17] at H
      exact absurd H (by simp)
    ·rw [if_neg c16] at H
     exact absurd H (by simp)
   ·rw [if_neg c15] at H
    have c15b0 : decide (x19_1 < (l1.length : Int)) = false := decide_eq_false c15
    clear c15
    simp only [Option.some.injEq, Prod.mk.injEq] at H
    obtain ⟨rfl, rfl⟩ := H
    go_wp2
    go_ret2
    exact ⟨_, _, by first | rfl | (simp [errW_none, errW_some] <;> rfl) | (simp [*, errW_none, errW_some] <;> rfl), by (with_reducible repeat (first | apply Kd.R_alloc | apply Kd.R_drewN | apply Kd.R_drew)); exact Kd.R_mono HO_4.out (fun _ hk => trivial), by (with_reducible repeat (first | apply Kd.R_alloc | apply Kd.R_drewN | apply Kd.R_drew)); exact HO_5.out, by repeat (first | (with_reducible first | exact HB.out | apply below_alloc | apply pw_below_drewN | apply below_drew1 | refine below_set ?_ GE198.out | refine below_set ?_ GE203.out | refine below_set ?_ GE204.out) | exact HB.out)⟩

end Go.Proofs.YtacjnapgdikhbaaGreatDoor.Q
end
section
namespace Go.Proofs.YtacjnapgdikhbaaGreatDoor.Q
open Go.RowKit Go.Proofs.YtacjnapgdikhbaaGreatDoorW.PrintWords Go.Proofs.YtacjnapgdikhbaaGreatDoorW.PrintLast Go.Proofs.YtacjnapgdikhbaaGreatDoorW.PrintMore
attribute [local go_sem] max2_int min2_int max_two min_two max_three min_three max_four min_four   -- for this text's walks alone
set_option linter.unusedVariables false
set_option linter.unusedSimpArgs false

/-! ### postriderref04_Lower: function 76 -/
def postriderref04_Lower.l0 : Nat → ByteArray → List Int → Int → Option (ByteArray)
  | 0, _, _, _ => none
  | k + 1, x0, x3, x4 => if x4 < (x0.size : Int) then (if 0 ≤ x4 then (if (bt x0 x4) ≥ 65 then (if (bt x0 x4) ≤ 90 then (if x3.length < 140737488355328 then (postriderref04_Lower.l0 k x0 (x3 ++ [((bt x0 x4) + 32) % 256]) (wrap64 (x4 + 1))) else (none)) else (if x3.length < 140737488355328 then (postriderref04_Lower.l0 k x0 (x3 ++ [bt x0 x4]) (wrap64 (x4 + 1))) else (none))) else (if x3.length < 140737488355328 then (postriderref04_Lower.l0 k x0 (x3 ++ [bt x0 x4]) (wrap64 (x4 + 1))) else (none))) else (none)) else (some (strOfNums x3))
def postriderref04_Lower.f (k : Nat) (a0 : ByteArray) : Option (ByteArray) := postriderref04_Lower.l0 k a0 ([] : List Int) 0
theorem postriderref04_Lower.mono_l : ∀ k, (∀ y0 y1 y2, LeO (postriderref04_Lower.l0 k y0 y1 y2) (postriderref04_Lower.l0 (k + 1) y0 y1 y2))
  | 0 => fun _ _ _ r h => by simp [postriderref04_Lower.l0] at h
  | k + 1 => by
    have ih0 := postriderref04_Lower.mono_l k
    · intro y0 y1 y2
      unfold postriderref04_Lower.l0
      repeat' first
      | (with_reducible exact ih0 _ _ _)
      | (with_reducible exact LeO.refl _)
      | (with_reducible exact LeO.none _)
      | (with_reducible refine LeO.ite ?_ ?_)
      | (with_reducible refine LeO.bind ?_ (fun _ => ?_))
      | exact ih0 _ _ _
      | exact LeO.none _
      | refine LeO.ite ?_ ?_
      | refine LeO.bind ?_ (fun _ => ?_)
theorem postriderref04_Lower.mono : ∀ a0 k, LeO (postriderref04_Lower.f k a0) (postriderref04_Lower.f (k + 1) a0) := by
  intro a0 k
  have ih0 := postriderref04_Lower.mono_l k
  unfold postriderref04_Lower.f
  repeat' first
      | (with_reducible exact ih0 _ _ _)
      | (with_reducible exact LeO.refl _)
      | (with_reducible exact LeO.none _)
      | (with_reducible refine LeO.ite ?_ ?_)
      | (with_reducible refine LeO.bind ?_ (fun _ => ?_))
      | exact ih0 _ _ _
      | exact LeO.none _
      | refine LeO.ite ?_ ?_
      | refine LeO.bind ?_ (fun _ => ?_)
set_option maxHeartbeats 8000000 in
set_option maxRecDepth 100000 in
theorem postriderref04_Lower.calls (k : Nat) (a0 : ByteArray) (r : ByteArray) (w : World) (h : postriderref04_Lower.f k a0 = some r) :
    Calls Tryz.prog 76 #[.string a0] w fun e w' => e = .returned (.string r) ∧ Below w.heap.size w w' := by
  have HB := Aside0.mk (Below.refl w.heap.size w)
  have H : (postriderref04_Lower.l0 k a0 ([] : List Int) 0) = some r := h
  clear h
  have H' := Aside0.mk H
  clear H
  go_enter Tryz.func76, Tryz.ntmps76
  go_wp2
  go_loopg [3, 4] k (fun kq v3 v4 w' => ∃ (x3_1 : List Int) (x4_1 : Int), v4 = .int .i64 x4_1 ∧ Aside0 (postriderref04_Lower.l0 kq a0 x3_1 x4_1 = some r) ∧ Aside0 (kq ≤ k) ∧ Aside0 (Kd.R (Kd.int .u8) 5 w' w.heap.size (fun _ => True) v3 x3_1) ∧ Aside0 (Below w.heap.size w w'))
  case atStart => exact ⟨(([] : List Int)), (0), (by first | rfl | (simp; done) | (simp [*]; done)), H', ⟨Nat.le_refl _⟩, ⟨by first | exact Kd.R_nil _ _ _ _ _ | exact Kd.N_nil _ _ _ _ _ | exact Kd.V_nil _ _ _ _ _ | exact Kd.Q_nil _ _ _ _ _ | exact Kd.S_nil _ _ _ _ _⟩, ⟨by repeat (first | (with_reducible first | exact HB.out | apply below_alloc | apply pw_below_drewN | apply below_drew1) | exact HB.out)⟩⟩
  case round =>
    clear H'
    obtain ⟨x3_1, x4_1, rfl, HA, HK1, HO_3, HB⟩ := hrel
    cases gk with
    | zero => exact absurd HA.out (by simp [postriderref04_Lower.l0])
    | succ k1 =>
      have H := HA.out
      clear HA
      simp only [postriderref04_Lower.l0] at H
      by_cases c2 : x4_1 < (a0.size : Int)
      · rw [if_pos c2] at H
        have c2b0 : decide (x4_1 < (a0.size : Int)) = true := decide_eq_true c2
        clear c2
        by_cases c3 : 0 ≤ x4_1
        · rw [if_pos c3] at H
          have c3b0 : decide (0 ≤ x4_1) = true := decide_eq_true c3
          clear c3
          by_cases c5 : (bt a0 x4_1) ≥ 65
          · rw [if_pos c5] at H
            have c5b0 : decide (65 ≤ (bt a0 x4_1)) = true := decide_eq_true c5
            clear c5
            by_cases c6 : (bt a0 x4_1) ≤ 90
            · rw [if_pos c6] at H
              have c6b0 : decide ((bt a0 x4_1) ≤ 90) = true := decide_eq_true c6
              clear c6
              by_cases c7 : x3_1.length < 140737488355328
              · rw [if_pos c7] at H
                have LMc7 := Aside0.mk c7
                clear c7
                obtain ⟨y214, hy214⟩ : ∃ y_ : List Int, y_ = (x3_1 ++ [((bt a0 x4_1) + 32) % 256]) := ⟨_, rfl⟩
                replace H : (postriderref04_Lower.l0 k1 a0 y214 (wrap64 (x4_1 + 1))) = some r := by first | (rw [hy214]; with_reducible exact H) | (have H2_ := (Option.bind_some _ _).symm.trans H; rw [hy214]; with_reducible exact H2_) | (have H2_ := (Option.bind_some _ _).symm.trans H; with_reducible exact H2_) | with_reducible exact H | (rw [hy214]; exact H) | exact H
                have Ny214 := Aside0.mk hy214
                clear hy214
                have H' := Aside0.mk H
                clear H
                have p4 : 0 ≤ (x4_1 : Int) := of_decide_eq_true (by first | (with_reducible assumption) | assumption)
                have q4 : x4_1 < (a0.size : Int) := of_decide_eq_true (by first | (with_reducible assumption) | assumption)
                have hx4 := bt_at a0 x4_1
                replace p4 := eq_true p4
                replace q4 := eq_true q4
                go_wp2_with (first | ((with_reducible refine gate_builtin (b := .append) (xs := #[.tmp 23, .tmp 25]) rfl ?_); at_builtin; refine Kd.R_append (Kd.int .u8) (w0 := w) w.heap.size rfl (.tmp 23) (.tmp 25) 102 5 (.int .u8 0) 1 rfl Tryz.underlying102 info5 rfl (by decide) (by omega) u3 x3_1 (((bt a0 x4_1) + 32) % 256) [.int .u8 (((bt a0 x4_1) + 32) % 256)] (fun _ => True) (fun _ => False) rfl rfl ?aP (fun _ hk => hk.elim) ?aF ?aO ?aB ?aS ?aL ?_; (case aP => exact rfl); (case aB => exact (by repeat (first | (with_reducible first | exact HB.out | apply below_alloc | apply pw_below_drewN | apply below_drew1) | exact HB.out))); (case aF => exact (fun _ _ => trivial)); (case aO => exact (by (with_reducible repeat (first | apply Kd.R_alloc | apply Kd.R_drewN | apply Kd.R_drew)); exact HO_3.out)); (case aS => exact (below_size (by repeat (first | (with_reducible first | exact HB.out | apply below_alloc | apply pw_below_drewN | apply below_drew1) | exact HB.out)))); (case aL => have := LMc7.out; omega); intro v215 w8 ho hb hg hat; rw [← Ny214.out] at ho; have n0_ := Aside0.mk (hb); have n1_ := Aside0.mk (ho); clear HB; clear HO_3; have HB := n0_; have HO216 := n1_; clear n0_ n1_; clear ho hb hg hat))
                go_roundg k1
                case measure => have := HK1.out; omega
                case rel => exact ⟨(y214), (wrap64 (x4_1 + 1)), (by first | rfl | (simp; done) | (simp [*]; done)), H', ⟨by have := HK1.out; omega⟩, ⟨by (with_reducible repeat (first | apply Kd.R_alloc | apply Kd.R_drewN | apply Kd.R_drew)); exact HO216.out⟩, ⟨by repeat (first | (with_reducible first | exact HB.out | apply below_alloc | apply pw_below_drewN | apply below_drew1) | exact HB.out)⟩⟩
              · rw [if_neg c7] at H
                exact absurd H (by simp)
            · rw [if_neg c6] at H
              have c6b0 : decide ((bt a0 x4_1) ≤ 90) = false := decide_eq_false c6
              clear c6
              by_cases c9 : x3_1.length < 140737488355328
              · rw [if_pos c9] at H
                have LMc9 := Aside0.mk c9
                clear c9
                obtain ⟨y217, hy217⟩ : ∃ y_ : List Int, y_ = (x3_1 ++ [bt a0 x4_1]) := ⟨_, rfl⟩
                replace H : (postriderref04_Lower.l0 k1 a0 y217 (wrap64 (x4_1 + 1))) = some r := by first | (rw [hy217]; with_reducible exact H) | (have H2_ := (Option.bind_some _ _).symm.trans H; rw [hy217]; with_reducible exact H2_) | (have H2_ := (Option.bind_some _ _).symm.trans H; with_reducible exact H2_) | with_reducible exact H | (rw [hy217]; exact H) | exact H
                have Ny217 := Aside0.mk hy217
                clear hy217
                have H' := Aside0.mk H
                clear H
                have p4 : 0 ≤ (x4_1 : Int) := of_decide_eq_true (by first | (with_reducible assumption) | assumption)
                have q4 : x4_1 < (a0.size : Int) := of_decide_eq_true (by first | (with_reducible assumption) | assumption)
                have hx4 := bt_at a0 x4_1
                replace p4 := eq_true p4
                replace q4 := eq_true q4
                go_wp2_with (first | ((with_reducible refine gate_builtin (b := .append) (xs := #[.tmp 23, .tmp 25]) rfl ?_); at_builtin; refine Kd.R_append (Kd.int .u8) (w0 := w) w.heap.size rfl (.tmp 23) (.tmp 25) 102 5 (.int .u8 0) 1 rfl Tryz.underlying102 info5 rfl (by decide) (by omega) u3 x3_1 (bt a0 x4_1) [.int .u8 (bt a0 x4_1)] (fun _ => True) (fun _ => False) rfl rfl ?aP (fun _ hk => hk.elim) ?aF ?aO ?aB ?aS ?aL ?_; (case aP => exact rfl); (case aB => exact (by repeat (first | (with_reducible first | exact HB.out | apply below_alloc | apply pw_below_drewN | apply below_drew1) | exact HB.out))); (case aF => exact (fun _ _ => trivial)); (case aO => exact (by (with_reducible repeat (first | apply Kd.R_alloc | apply Kd.R_drewN | apply Kd.R_drew)); exact HO_3.out)); (case aS => exact (below_size (by repeat (first | (with_reducible first | exact HB.out | apply below_alloc | apply pw_below_drewN | apply below_drew1) | exact HB.out)))); (case aL => have := LMc9.out; omega); intro v218 w10 ho hb hg hat; rw [← Ny217.out] at ho; have n0_ := Aside0.mk (hb); have n1_ := Aside0.mk (ho); clear HB; clear HO_3; have HB := n0_; have HO219 := n1_; clear n0_ n1_; clear ho hb hg hat))
                go_roundg k1
                case measure => have := HK1.out; omega
                case rel => exact ⟨(y217), (wrap64 (x4_1 + 1)), (by first | rfl | (simp; done) | (simp [*]; done)), H', ⟨by have := HK1.out; omega⟩, ⟨by (with_reducible repeat (first | apply Kd.R_alloc | apply Kd.R_drewN | apply Kd.R_drew)); exact HO219.out⟩, ⟨by repeat (first | (with_reducible first | exact HB.out | apply below_alloc | apply pw_below_drewN | apply below_drew1) | exact HB.out)⟩⟩
              · rw [if_neg c9] at H
                exact absurd H (by simp)
          · rw [if_neg c5] at H
            have c5b0 : decide (65 ≤ (bt a0 x4_1)) = false := decide_eq_false c5
            clear c5
            by_cases c11 : x3_1.length < 140737488355328
            · rw [if_pos c11] at H
              have LMc11 := Aside0.mk c11
              clear c11
              obtain ⟨y220, hy220⟩ : ∃ y_ : List Int, y_ = (x3_1 ++ [bt a0 x4_1]) := ⟨_, rfl⟩
              replace H : (postriderref04_Lower.l0 k1 a0 y220 (wrap64 (x4_1 + 1))) = some r := by first | (rw [hy220]; with_reducible exact H) | (have H2_ := (Option.bind_some _ _).symm.trans H; rw [hy220]; with_reducible exact H2_) | (have H2_ := (Option.bind_some _ _).symm.trans H; with_reducible exact H2_) | with_reducible exact H | (rw [hy220]; exact H) | exact H
              have Ny220 := Aside0.mk hy220
              clear hy220
              have H' := Aside0.mk H
              clear H
              have p4 : 0 ≤ (x4_1 : Int) := of_decide_eq_true (by first | (with_reducible assumption) | assumption)
              have q4 : x4_1 < (a0.size : Int) := of_decide_eq_true (by first | (with_reducible assumption) | assumption)
              have hx4 := bt_at a0 x4_1
              replace p4 := eq_true p4
              replace q4 := eq_true q4
              go_wp2_with (first | ((with_reducible refine gate_builtin (b := .append) (xs := #[.tmp 23, .tmp 25]) rfl ?_); at_builtin; refine Kd.R_append (Kd.int .u8) (w0 := w) w.heap.size rfl (.tmp 23) (.tmp 25) 102 5 (.int .u8 0) 1 rfl Tryz.underlying102 info5 rfl (by decide) (by omega) u3 x3_1 (bt a0 x4_1) [.int .u8 (bt a0 x4_1)] (fun _ => True) (fun _ => False) rfl rfl ?aP (fun _ hk => hk.elim) ?aF ?aO ?aB ?aS ?aL ?_; (case aP => exact rfl); (case aB => exact (by repeat (first | (with_reducible first | exact HB.out | apply below_alloc | apply pw_below_drewN | apply below_drew1) | exact HB.out))); (case aF => exact (fun _ _ => trivial)); (case aO => exact (by (with_reducible repeat (first | apply Kd.R_alloc | apply Kd.R_drewN | apply Kd.R_drew)); exact HO_3.out)); (case aS => exact (below_size (by repeat (first | (with_reducible first | exact HB.out | apply below_alloc | apply pw_below_drewN | apply below_drew1) | exact HB.out)))); (case aL => have := LMc11.out; omega); intro v221 w12 ho hb hg hat; rw [← Ny220.out] at ho; have n0_ := Aside0.mk (hb); have n1_ := Aside0.mk (ho); clear HB; clear HO_3; have HB := n0_; have HO222 := n1_; clear n0_ n1_; clear ho hb hg hat))
              go_roundg k1
              case measure => have := HK1.out; omega
              case rel => exact ⟨(y220), (wrap64 (x4_1 + 1)), (by first | rfl | (simp; done) | (simp [*]; done)), H', ⟨by have := HK1.out; omega⟩, ⟨by (with_reducible repeat (first | apply Kd.R_alloc | apply Kd.R_drewN | apply Kd.R_drew)); exact HO222.out⟩, ⟨by repeat (first | (with_reducible first | exact HB.out | apply below_alloc | apply pw_below_drewN | apply below_drew1) | exact HB.out)⟩⟩
            · rw [if_neg c11] at H
              exact absurd H (by simp)
        · rw [if_neg c3] at H
          exact absurd H (by simp)
      · rw [if_neg c2] at H
        have c2b0 : decide (x4_1 < (a0.size : Int)) = false := decide_eq_false c2
        clear c2
        obtain rfl := Option.some.inj H
        have hcv13 := own_string (P := Tryz.prog) Tryz.underlying102 Tryz.underlying5 Tryz.underlying9 (Kd.own_of_R HO_3.out)
        go_wp2
        go_ret
        exact ⟨by first | rfl | (simp [bneNil]; done) | (simp [errW_none, errW_some] <;> rfl) | (simp [*, errW_none, errW_some] <;> rfl), by repeat (first | (with_reducible first | exact HB.out | apply below_alloc | apply pw_below_drewN | apply below_drew1) | exact HB.out)⟩

/-! ### postriderref07_Find: function 43 -/
def postriderref07_Find.l0 : Nat → ByteArray → List ByteArray → Int → List (S79) → ByteArray → Bool → Option (List ByteArray)
 | 0, _, _, _, _, _, _ => none
 | k + 1, x1, x5, x6, x224000, x224001, x224002 => if x6 < (x224000.length : Int) then (if 0 ≤ x6 then ((postriderref04_Lower.f k ((rd_T79 x224000 x6).f0)).bind fun t225 => ((postriderref04_Lower.f k x1).bind fun t226 => (if t225.toList = t226.toList then (if x5.length < 8796093022208 then (postriderref07_Find.l0 k x1 (x5 ++ [(rd_T79 x224000 x6).f1]) (wrap64 (x6 + 1)) x224000 x224001 x224002) else (none)) else (postriderref07_Find.l0 k x1 x5 (wrap64 (x6 + 1)) x224000 x224001 x224002)))) else (none)) else (some x5)
def postriderref07_Find.f (k : Nat) (l0_0 : List (S79)) (a0_1 : ByteArray) (a0_2 : Bool) (a1 : ByteArray) : Option (List ByteArray) := postriderref07_Find.l0 k a1 ([] : List ByteArray) 0 l0_0 a0_1 a0_2
theorem postriderref07_Find.mono_l : ∀ k, (∀ y0 y1 y2 y3 y4 y5, LeO (postriderref07_Find.l0 k y0 y1 y2 y3 y4 y5) (postriderref07_Find.l0 (k + 1) y0 y1 y2 y3 y4 y5))
 | 0 => fun _ _ _ _ _ _ r h => by simp [postriderref07_Find.l0] at h
 | k + 1 => by
  have ih0 := postriderref07_Find.mono_l k
  ·intro y0 y1 y2 y3 y4 y5
   unfold postriderref07_Find.l0
   repeat' first
   | (with_reducible exact ih0 _ _ _ _ _ _)
   | (with_reducible exact postriderref04_Lower.mono _ _)
   | (with_reducible exact LeO.refl _)
   | (with_reducible exact LeO.none _)
   | (with_reducible refine LeO.ite ?_ ?_)
   | (with_reducible refine LeO.bind ?_ (fun _ => ?_))
   | exact ih0 _ _ _ _ _ _
   | exact postriderref04_Lower.mono _ _
   | exact LeO.none _
   | refine LeO.ite ?_ ?_
   | refine LeO.bind ?_ (fun _ => ?_)
theorem postriderref07_Find.mono : ∀ a0 a1 a2 a3 k, LeO (postriderref07_Find.f k a0 a1 a2 a3) (postriderref07_Find.f (k + 1) a0 a1 a2 a3) := by
 intro a0 a1 a2 a3 k
 have ih0 := postriderref07_Find.mono_l k
 unfold postriderref07_Find.f
 repeat' first
   | (with_reducible exact ih0 _ _ _ _ _ _)
   | (with_reducible exact postriderref04_Lower.mono _ _)
   | (with_reducible exact LeO.refl _)
   | (with_reducible exact LeO.none _)
   | (with_reducible refine LeO.ite ?_ ?_)
   | (with_reducible refine LeO.bind ?_ (fun _ => ?_))
   | exact ih0 _ _ _ _ _ _
   | exact postriderref04_Lower.mono _ _
   | exact LeO.none _
   | refine LeO.ite ?_ ?_
   | refine LeO.bind ?_ (fun _ => ?_)
set_option maxHeartbeats 8000000 in
set_option maxRecDepth 100000 in
theorem postriderref07_Find.calls (k : Nat) (A0_0 : Option Addr) (c0_0 : Nat) (l0_0 : List (S79)) (a0_1 : ByteArray) (a0_2 : Bool) (a1 : ByteArray) (r : List ByteArray) (w : World) (hr0_0 : Kd.C k79 w A0_0 l0_0.length l0_0) (hc0_0 : l0_0.length ≤ c0_0) (h : postriderref07_Find.f k l0_0 a0_1 a0_2 a1 = some r) :
  Calls Tryz.prog 43 #[.agg #[.slice A0_0 l0_0.length c0_0, .string a0_1, .bool a0_2], .string a1] w fun e w' => ∃ v0_ : Value, e = .returned (v0_) ∧ Kd.R Kd.string 9 w' w.heap.size (fun _ => True) v0_ r ∧ Below w.heap.size w w' := by
 have hu30 := Tryz.underlying30
 have HR0_0 := Aside0.mk hr0_0
 have HC0_0 := Aside0.mk hc0_0
 clear hr0_0 hc0_0
 have HB := Aside0.mk (Below.refl w.heap.size w)
 have H : (postriderref07_Find.l0 k a1 ([] : List ByteArray) 0 l0_0 a0_1 a0_2) = some r := h
 clear h
 have H' := Aside0.mk H
 clear H
 go_enter Tryz.func43, Tryz.ntmps43
 go_wp2_with (first | ((with_reducible refine gate_dst (N := 2) rfl ?_); refine box_event ?hg (N := 2) ?hd (cs := #[.slice A0_0 l0_0.length c0_0, .string a0_1, .bool a0_2]) (t := 30) ?hr ?_; (case hd => rfl); (case hg => rfl); (case hr => first | (go_simp; done) | (go_simp; rfl)); intro gb223 hg w3 hbox hb; have n0_ := Aside0.mk (below_step bl hb); have n1_ := Aside0.mk (hbox); have n2_ := Aside0.mk ((by rw [hg]; exact (below_size bl) : w.heap.size ≤ gb223)); have n3_ := Aside0.mk ((by rw [hg]; exact (below_size bl) : w.heap.size ≤ gb223)); clear HB; have HB := n0_; have BK223 := n1_; have GW223 := n2_; have GE223 := n3_; clear n0_ n1_ n2_ n3_; clear hb hbox hg))
 go_loopg [5, 6] k (fun kq v5 v6 w' => ∃ (x5_1 : List ByteArray) (x6_1 : Int), v6 = .int .i64 x6_1 ∧ Aside0 (postriderref07_Find.l0 kq a1 x5_1 x6_1 l0_0 a0_1 a0_2 = some r) ∧ Aside0 (kq ≤ k) ∧ Aside0 (Kd.R Kd.string 9 w' w.heap.size (fun _ => True) v5 x5_1) ∧ Aside0 (w'.heap[gb223]? = some (.cells #[(.slice A0_0 l0_0.length c0_0), .string a0_1, .bool a0_2] 30 (0, 0))) ∧ Aside0 (Below w.heap.size w w'))
 case atStart => exact ⟨(([] : List ByteArray)), (0), (by first | rfl | (simp; done) | (simp [*]; done)), H', ⟨Nat.le_refl _⟩, ⟨by first | exact Kd.R_nil _ _ _ _ _ | exact Kd.N_nil _ _ _ _ _ | exact Kd.V_nil _ _ _ _ _ | exact Kd.Q_nil _ _ _ _ _ | exact Kd.S_nil _ _ _ _ _⟩, ⟨by (with_reducible repeat (first | refine blk_drewN ?_ _ | refine blk_drew ?_ | refine blk_alloc ?_ _)); exact BK223.out⟩, ⟨by repeat (first | (with_reducible first | exact HB.out | apply below_alloc | apply pw_below_drewN | apply below_drew1 | refine below_set ?_ GE223.out) | exact HB.out)⟩⟩
 case round =>
  clear H'
  try clear p2
  obtain ⟨x5_1, x6_1, rfl, HA, HK1, HO_5, BK223, HB⟩ := hrel
  cases gk with
  | zero => exact absurd HA.out (by simp [postriderref07_Find.l0])
  | succ k1 =>
   have H := HA.out
   clear HA
   simp only [postriderref07_Find.l0] at H
   by_cases c4 : x6_1 < (l0_0.length : Int)
   ·rw [if_pos c4] at H
    have c4b0 : decide (x6_1 < (l0_0.length : Int)) = true := decide_eq_true c4
    clear c4
    by_cases c5 : 0 ≤ x6_1
    ·rw [if_pos c5] at H
     have c5b0 : decide (0 ≤ x6_1) = true := decide_eq_true c5
     clear c5
     replace H := Option.bind_eq_some_iff.mp H
     obtain ⟨t225, A60, H⟩ := H
     replace H : ((postriderref04_Lower.f k1 a1).bind fun t226 => (if t225.toList = t226.toList then (if x5_1.length < 8796093022208 then (postriderref07_Find.l0 k1 a1 (x5_1 ++ [(rd_T79 l0_0 x6_1).f1]) (wrap64 (x6_1 + 1)) l0_0 a0_1 a0_2) else (none)) else (postriderref07_Find.l0 k1 a1 x5_1 (wrap64 (x6_1 + 1)) l0_0 a0_1 a0_2))) = some r := H
     have A6 := Aside0.mk A60
     clear A60
     replace H := Option.bind_eq_some_iff.mp H
     obtain ⟨t226, A70, H⟩ := H
     replace H : (if t225.toList = t226.toList then (if x5_1.length < 8796093022208 then (postriderref07_Find.l0 k1 a1 (x5_1 ++ [(rd_T79 l0_0 x6_1).f1]) (wrap64 (x6_1 + 1)) l0_0 a0_1 a0_2) else (none)) else (postriderref07_Find.l0 k1 a1 x5_1 (wrap64 (x6_1 + 1)) l0_0 a0_1 a0_2)) = some r := H
     have A7 := Aside0.mk A70
     clear A70
     by_cases c8 : t225.toList = t226.toList
     ·rw [if_pos c8] at H
      have c8b0 : (t225.toList == t226.toList) = true := beq_iff_eq.mpr c8
      have c8b1 : (t225.toList != t226.toList) = false := bne_eq_false_iff_eq.mpr c8
      clear c8
      by_cases c9 : x5_1.length < 8796093022208
      ·rw [if_pos c9] at H
       have LMc9 := Aside0.mk c9
       clear c9
       obtain ⟨y228, hy228⟩ : ∃ y_ : List ByteArray, y_ = (x5_1 ++ [(rd_T79 l0_0 x6_1).f1]) := ⟨_, rfl⟩
       replace H : (postriderref07_Find.l0 k1 a1 y228 (wrap64 (x6_1 + 1)) l0_0 a0_1 a0_2) = some r := by first | (rw [hy228]; with_reducible exact H) | (have H2_ := (Option.bind_some _ _).symm.trans H; rw [hy228]; with_reducible exact H2_) | (have H2_ := (Option.bind_some _ _).symm.trans H; with_reducible exact H2_) | with_reducible exact H | (rw [hy228]; exact H) | exact H
       have Ny228 := Aside0.mk hy228
       clear hy228
       have H' := Aside0.mk H
       clear H
       have hcz10_0 : wr.cell? ⟨gb223, 0, none⟩ = some (.slice A0_0 l0_0.length c0_0) := (blk_cell BK223.out 0).trans rfl
       have hcz10_1 : wr.cell? ⟨gb223, 1, none⟩ = some (.string a0_1) := (blk_cell BK223.out 1).trans rfl
       have hcz10_2 : wr.cell? ⟨gb223, 2, none⟩ = some (.bool a0_2) := (blk_cell BK223.out 2).trans rfl
       have hfz10_0 := blk_frozen BK223.out 0
       have hfz10_1 := blk_frozen BK223.out 1
       have hfz10_2 := blk_frozen BK223.out 2
       have p224 : 0 ≤ (x6_1 : Int) := od
       have q224 : x6_1 < (l0_0.length : Int) := od
       obtain ⟨ad224, e224, hx224_0, hx224_1, hx224_2⟩ := at_T79 HR0_0.out x6_1 p224 q224
       cases e224
       replace hx224_0 := (HB.out.cell (World.block_lt_of_cell? w _ hx224_0)).trans hx224_0
       replace hx224_1 := (HB.out.cell (World.block_lt_of_cell? w _ hx224_1)).trans hx224_1
       replace hx224_2 := (HB.out.cell (World.block_lt_of_cell? w _ hx224_2)).trans hx224_2
       replace p224 := eq_true p224
       replace q224 := eq_true q224
       go_wp2_with (first | ((with_reducible refine gate_callee (f := 76) rfl ?_); refine goesL_ (some 20) rfl rfl Tryz.func76 (by kernel_rfl) rfl #[.string ((rd_T79 l0_0 x6_1).f0)] rfl ml ?_; (with_reducible refine (postriderref04_Lower.calls k1 ((rd_T79 l0_0 x6_1).f0) t225 _ A6.out).mono ?_); rintro e w11 ⟨rfl, hb⟩; refine ⟨_, rfl, ?_⟩; have n0_ := Aside0.mk (Kd.R_below (kr HO_5.out) hb); have n1_ := Aside0.mk (kb BK223.out hb); have n2_ := Aside0.mk (below_step bl hb); clear HO_5; clear BK223; clear HB; have HO_5 := n0_; have BK223 := n1_; have HB := n2_; clear n0_ n1_ n2_; (try clear hb); (try clear hb2); (try clear hk); (try clear hi)) | ((with_reducible refine gate_callee (f := 76) rfl ?_); refine goesL_ (some 22) rfl rfl Tryz.func76 (by kernel_rfl) rfl #[.string a1] rfl ml ?_; (with_reducible refine (postriderref04_Lower.calls k1 a1 t226 _ A7.out).mono ?_); rintro e w12 ⟨rfl, hb⟩; refine ⟨_, rfl, ?_⟩; have n0_ := Aside0.mk (Kd.R_below (kr HO_5.out) hb); have n1_ := Aside0.mk (kb BK223.out hb); have n2_ := Aside0.mk (below_step bl hb); clear HO_5; clear BK223; clear HB; have HO_5 := n0_; have BK223 := n1_; have HB := n2_; clear n0_ n1_ n2_; (try clear hb); (try clear hb2); (try clear hk); (try clear hi); have hcz13_0 : w12.cell? ⟨gb223, 0, none⟩ = some (.slice (some ad224) l0_0.length c0_0) := (blk_cell BK223.out 0).trans rfl; have hcz13_1 : w12.cell? ⟨gb223, 1, none⟩ = some (.string a0_1) := (blk_cell BK223.out 1).trans rfl; have hcz13_2 : w12.cell? ⟨gb223, 2, none⟩ = some (.bool a0_2) := (blk_cell BK223.out 2).trans rfl; have hfz13_0 := blk_frozen BK223.out 0; have hfz13_1 := blk_frozen BK223.out 1; have hfz13_2 := blk_frozen BK223.out 2; have p227 : 0 ≤ (x6_1 : Int) := od; have q227 : x6_1 < (l0_0.length : Int) := od; obtain ⟨ad227, e227, hx227_0, hx227_1, hx227_2⟩ := at_T79 HR0_0.out x6_1 p227 q227; obtain rfl : ad224 = ad227 := (by injection e227); replace hx227_0 := (HB.out.cell (World.block_lt_of_cell? w _ hx227_0)).trans hx227_0; replace hx227_1 := (HB.out.cell (World.block_lt_of_cell? w _ hx227_1)).trans hx227_1; replace hx227_2 := (HB.out.cell (World.block_lt_of_cell? w _ hx227_2)).trans hx227_2; replace p227 := eq_true p227; replace q227 := eq_true q227) | ((with_reducible refine gate_builtin (b := .append) (xs := #[.tmp 24, .tmp 31]) rfl ?_); at_builtin; refine Kd.R_append Kd.string (w0 := w) w.heap.size rfl (.tmp 24) (.tmp 31) 84 9 (.string ⟨#[]⟩) 16 rfl Tryz.underlying84 info9 rfl (by decide) (by omega) u5 x5_1 ((rd_T79 l0_0 x6_1).f1) [.string ((rd_T79 l0_0 x6_1).f1)] (fun _ => True) (fun _ => False) rfl rfl ?aP (fun _ hk => hk.elim) ?aF ?aO ?aB ?aS ?aL ?_; (case aP => exact rfl); (case aB => exact bl); (case aF => exact (fun _ _ => trivial)); (case aO => exact (kr HO_5.out)); (case aS => exact (below_size bl)); (case aL => have := LMc9.out; omega); intro v229 w14 ho hb hg hat; rw [← Ny228.out] at ho; have n0_ := Aside0.mk (blk_grown (g := gb223) (o := .cells #[.slice (some ad224) l0_0.length c0_0, .string a0_1, .bool a0_2] 30 (0, 0)) (bk BK223.out) hg (Kd.R_ne HO_5.out BK223.out (by decide))); have n1_ := Aside0.mk (hb); have n2_ := Aside0.mk (ho); clear BK223; clear HB; clear HO_5; have BK223 := n0_; have HB := n1_; have HO230 := n2_; clear n0_ n1_ n2_; clear ho hb hg hat))
       go_roundg k1
       case measure => have := HK1.out; omega
       case rel => exact ⟨(y228), (wrap64 (x6_1 + 1)), (by first | rfl | (simp; done) | (simp [*]; done)), H', ⟨by have := HK1.out; omega⟩, ⟨by (with_reducible repeat (first | apply Kd.R_alloc | apply Kd.R_drewN | apply Kd.R_drew)); exact HO230.out⟩, ⟨by (with_reducible repeat (first | refine blk_drewN ?_ _ | refine blk_drew ?_ | refine blk_alloc ?_ _)); exact BK223.out⟩, ⟨by repeat (first | (with_reducible first | exact HB.out | apply below_alloc | apply pw_below_drewN | apply below_drew1 | refine below_set ?_ GE223.out) | exact HB.out)⟩⟩
      ·rw [if_neg c9] at H
       exact absurd H (by simp)
     ·rw [if_neg c8] at H
      have c8b0 : (t225.toList == t226.toList) = false := beq_eq_false_iff_ne.mpr c8
      have c8b1 : (t225.toList != t226.toList) = true := bne_iff_ne.mpr c8
      have H' := Aside0.mk H
      clear H
      have hcz15_0 : wr.cell? ⟨gb223, 0, none⟩ = some (.slice A0_0 l0_0.length c0_0) := (blk_cell BK223.out 0).trans rfl
      have hcz15_1 : wr.cell? ⟨gb223, 1, none⟩ = some (.string a0_1) := (blk_cell BK223.out 1).trans rfl
      have hcz15_2 : wr.cell? ⟨gb223, 2, none⟩ = some (.bool a0_2) := (blk_cell BK223.out 2).trans rfl
      have hfz15_0 := blk_frozen BK223.out 0
      have hfz15_1 := blk_frozen BK223.out 1
      have hfz15_2 := blk_frozen BK223.out 2
      have p224 : 0 ≤ (x6_1 : Int) := od
      have q224 : x6_1 < (l0_0.length : Int) := od
      obtain ⟨ad224, e224, hx224_0, hx224_1, hx224_2⟩ := at_T79 HR0_0.out x6_1 p224 q224
      cases e224
      replace hx224_0 := (HB.out.cell (World.block_lt_of_cell? w _ hx224_0)).trans hx224_0
      replace hx224_1 := (HB.out.cell (World.block_lt_of_cell? w _ hx224_1)).trans hx224_1
      replace hx224_2 := (HB.out.cell (World.block_lt_of_cell? w _ hx224_2)).trans hx224_2
      replace p224 := eq_true p224
      replace q224 := eq_true q224
      go_wp2_with (first | ((with_reducible refine gate_callee (f := 76) rfl ?_); refine goesL_ (some 20) rfl rfl Tryz.func76 (by kernel_rfl) rfl #[.string ((rd_T79 l0_0 x6_1).f0)] rfl ml ?_; (with_reducible refine (postriderref04_Lower.calls k1 ((rd_T79 l0_0 x6_1).f0) t225 _ A6.out).mono ?_); rintro e w16 ⟨rfl, hb⟩; refine ⟨_, rfl, ?_⟩; have n0_ := Aside0.mk (Kd.R_below (kr HO_5.out) hb); have n1_ := Aside0.mk (kb BK223.out hb); have n2_ := Aside0.mk (below_step bl hb); clear HO_5; clear BK223; clear HB; have HO_5 := n0_; have BK223 := n1_; have HB := n2_; clear n0_ n1_ n2_; (try clear hb); (try clear hb2); (try clear hk); (try clear hi)) | ((with_reducible refine gate_callee (f := 76) rfl ?_); refine goesL_ (some 22) rfl rfl Tryz.func76 (by kernel_rfl) rfl #[.string a1] rfl ml ?_; (with_reducible refine (postriderref04_Lower.calls k1 a1 t226 _ A7.out).mono ?_); rintro e w17 ⟨rfl, hb⟩; refine ⟨_, rfl, ?_⟩; have n0_ := Aside0.mk (Kd.R_below (kr HO_5.out) hb); have n1_ := Aside0.mk (kb BK223.out hb); have n2_ := Aside0.mk (below_step bl hb); clear HO_5; clear BK223; clear HB; have HO_5 := n0_; have BK223 := n1_; have HB := n2_; clear n0_ n1_ n2_; (try clear hb); (try clear hb2); (try clear hk); (try clear hi)))
      go_roundg k1
      case measure => have := HK1.out; omega
      case rel => exact ⟨(x5_1), (wrap64 (x6_1 + 1)), (by first | rfl | (simp; done) | (simp [*]; done)), H', ⟨by have := HK1.out; omega⟩, ⟨by (with_reducible repeat (first | apply Kd.R_alloc | apply Kd.R_drewN | apply Kd.R_drew)); exact HO_5.out⟩, ⟨by (with_reducible repeat (first | refine blk_drewN ?_ _ | refine blk_drew ?_ | refine blk_alloc ?_ _)); exact BK223.out⟩, ⟨by repeat (first | (with_reducible first | exact HB.out | apply below_alloc | apply pw_below_drewN | apply below_drew1 | refine below_set ?_ GE223.out) | exact HB.out)⟩⟩
    ·rw [if_neg c5] at H
     exact absurd H (by simp)
   ·rw [if_neg c4] at H
    have c4b0 : decide (x6_1 < (l0_0.length : Int)) = false := decide_eq_false c4
    clear c4
    obtain rfl := Option.some.inj H
    have hcz18_0 : wr.cell? ⟨gb223, 0, none⟩ = some (.slice A0_0 l0_0.length c0_0) := (blk_cell BK223.out 0).trans rfl
    have hcz18_1 : wr.cell? ⟨gb223, 1, none⟩ = some (.string a0_1) := (blk_cell BK223.out 1).trans rfl
    have hcz18_2 : wr.cell? ⟨gb223, 2, none⟩ = some (.bool a0_2) := (blk_cell BK223.out 2).trans rfl
    have hfz18_0 := blk_frozen BK223.out 0
    have hfz18_1 := blk_frozen BK223.out 1
    have hfz18_2 := blk_frozen BK223.out 2
    go_wp2
    go_ret
    exact ⟨_, by first | rfl | (simp [errW_none, errW_some] <;> rfl) | (simp [*, errW_none, errW_some] <;> rfl), by (with_reducible repeat (first | apply Kd.R_alloc | apply Kd.R_drewN | apply Kd.R_drew)); exact HO_5.out, by repeat (first | (with_reducible first | exact HB.out | apply below_alloc | apply pw_below_drewN | apply below_drew1 | refine below_set ?_ GE223.out) | exact HB.out)⟩

/-! ### postriderref22_Hops: function 16 -/
def postriderref22_Hops.f (k : Nat) (l0_0 : List (S79)) (a0_1 : ByteArray) (a0_2 : Bool) : Option (Int) := (postriderref07_Find.f k l0_0 a0_1 a0_2 (⟨#[114, 101, 99, 101, 105, 118, 101, 100]⟩ : ByteArray)).bind fun t232 => (some (t232.length : Int))
theorem postriderref22_Hops.mono : ∀ a0 a1 a2 k, LeO (postriderref22_Hops.f k a0 a1 a2) (postriderref22_Hops.f (k + 1) a0 a1 a2) := by
  intro a0 a1 a2 k
  unfold postriderref22_Hops.f
  repeat' first
      | (with_reducible exact postriderref07_Find.mono _ _ _ _ _)
      | (with_reducible exact LeO.refl _)
      | (with_reducible exact LeO.none _)
      | (with_reducible refine LeO.ite ?_ ?_)
      | (with_reducible refine LeO.bind ?_ (fun _ => ?_))
      | exact postriderref07_Find.mono _ _ _ _ _
      | exact LeO.none _
      | refine LeO.ite ?_ ?_
      | refine LeO.bind ?_ (fun _ => ?_)
set_option maxHeartbeats 8000000 in
set_option maxRecDepth 100000 in
theorem postriderref22_Hops.calls (k : Nat) (A0_0 : Option Addr) (c0_0 : Nat) (l0_0 : List (S79)) (a0_1 : ByteArray) (a0_2 : Bool) (r : Int) (w : World) (hr0_0 : Kd.C k79 w A0_0 l0_0.length l0_0) (hc0_0 : l0_0.length ≤ c0_0) (h : postriderref22_Hops.f k l0_0 a0_1 a0_2 = some r) :
    Calls Tryz.prog 16 #[.agg #[.slice A0_0 l0_0.length c0_0, .string a0_1, .bool a0_2]] w fun e w' => e = .returned (.int .i64 r) ∧ Below w.heap.size w w' := by
  have hu30 := Tryz.underlying30
  have HR0_0 := Aside0.mk hr0_0
  have HC0_0 := Aside0.mk hc0_0
  clear hr0_0 hc0_0
  have HB := Aside0.mk (Below.refl w.heap.size w)
  have H : ((postriderref07_Find.f k l0_0 a0_1 a0_2 (⟨#[114, 101, 99, 101, 105, 118, 101, 100]⟩ : ByteArray)).bind fun t232 => (some (t232.length : Int))) = some r := h
  clear h
  replace H := Option.bind_eq_some_iff.mp H
  obtain ⟨t232, A20, H⟩ := H
  replace H : (some (t232.length : Int)) = some r := H
  have A2 := Aside0.mk A20
  clear A20
  obtain rfl := Option.some.inj H
  go_enter Tryz.func16, Tryz.ntmps16
  go_wp2_with (first | ((with_reducible refine gate_dst (N := 1) rfl ?_); refine box_event ?hg (N := 1) ?hd (cs := #[.slice A0_0 l0_0.length c0_0, .string a0_1, .bool a0_2]) (t := 30) ?hr ?_; (case hd => rfl); (case hg => rfl); (case hr => first | (go_simp; done) | (go_simp; rfl)); intro gb231 hg w3 hbox hb; have n0_ := Aside0.mk (below_step (by repeat (first | (with_reducible first | exact HB.out | apply below_alloc | apply pw_below_drewN | apply below_drew1) | exact HB.out)) hb); have n1_ := Aside0.mk (hbox); have n2_ := Aside0.mk ((by rw [hg]; exact (below_size (by repeat (first | (with_reducible first | exact HB.out | apply below_alloc | apply pw_below_drewN | apply below_drew1) | exact HB.out))) : w.heap.size ≤ gb231)); have n3_ := Aside0.mk ((by rw [hg]; exact (below_size (by repeat (first | (with_reducible first | exact HB.out | apply below_alloc | apply pw_below_drewN | apply below_drew1) | exact HB.out))) : w.heap.size ≤ gb231)); clear HB; have HB := n0_; have BK231 := n1_; have GW231 := n2_; have GE231 := n3_; clear n0_ n1_ n2_ n3_; clear hb hbox hg; have hcz4_0 : w3.cell? ⟨gb231, 0, none⟩ = some (.slice A0_0 l0_0.length c0_0) := (blk_cell BK231.out 0).trans rfl; have hcz4_1 : w3.cell? ⟨gb231, 1, none⟩ = some (.string a0_1) := (blk_cell BK231.out 1).trans rfl; have hcz4_2 : w3.cell? ⟨gb231, 2, none⟩ = some (.bool a0_2) := (blk_cell BK231.out 2).trans rfl; have hfz4_0 := blk_frozen BK231.out 0; have hfz4_1 := blk_frozen BK231.out 1; have hfz4_2 := blk_frozen BK231.out 2) | ((with_reducible refine gate_callee (f := 43) rfl ?_); refine goesL_ (some 4) rfl rfl Tryz.func43 (by kernel_rfl) rfl #[.agg #[.slice A0_0 l0_0.length c0_0, .string a0_1, .bool a0_2], .string (⟨#[114, 101, 99, 101, 105, 118, 101, 100]⟩ : ByteArray)] rfl (by (try simp only [List.map_toArray, List.map_cons, List.map_nil]); first | done | rfl | (simp only [List.length_drop, List.length_take]; rfl)) ?_; (with_reducible refine (postriderref07_Find.calls k _ _ l0_0 a0_1 a0_2 (⟨#[114, 101, 99, 101, 105, 118, 101, 100]⟩ : ByteArray) t232 _ ?side1 ?side2 A2.out).mono ?_); (case side1 => repeat (first | exact (Kd.C_below HR0_0.out HB.out) | (with_reducible refine Kd.C_alloc ?_ _) | (with_reducible refine Kd.C_drewN ?_ _) | (with_reducible refine Kd.C_drew ?_))); (case side2 => exact HC0_0.out); rintro e w5 ⟨v233, rfl, ho0, hb⟩; refine ⟨_, rfl, ?_⟩; have n0_ := Aside0.mk (Kd.R_lower ho0 (below_size (by repeat (first | (with_reducible first | exact HB.out | apply below_alloc | apply pw_below_drewN | apply below_drew1 | refine below_set ?_ GE231.out) | exact HB.out)))); have n1_ := Aside0.mk (blk_below (g := gb231) (o := .cells #[.slice A0_0 l0_0.length c0_0, .string a0_1, .bool a0_2] 30 (0, 0)) (by (with_reducible repeat (first | refine blk_drewN ?_ _ | refine blk_drew ?_ | refine blk_alloc ?_ _)); exact BK231.out) hb); have n2_ := Aside0.mk (below_step (by repeat (first | (with_reducible first | exact HB.out | apply below_alloc | apply pw_below_drewN | apply below_drew1 | refine below_set ?_ GE231.out) | exact HB.out)) hb); clear BK231; clear HB; have HO234 := n0_; have BK231 := n1_; have HB := n2_; clear n0_ n1_ n2_; (try clear hb); (try clear hb2); (try clear hk); (try clear hi); (try clear ho0); obtain ⟨Ao6, co6, eo6⟩ := Kd.R_slice HO234.out; subst eo6))
  go_ret
  exact ⟨by first | rfl | (simp [bneNil]; done) | (simp [errW_none, errW_some] <;> rfl) | (simp [*, errW_none, errW_some] <;> rfl), by repeat (first | (with_reducible first | exact HB.out | apply below_alloc | apply pw_below_drewN | apply below_drew1 | refine below_set ?_ GE231.out) | exact HB.out)⟩

/-! ### postriderref05_Normal: function 41 -/
def postriderref05_Normal.f (k : Nat) (a0_0 : ByteArray) (a0_1 : ByteArray) : Option (ByteArray × ByteArray) := (postriderref04_Lower.f k a0_0).bind fun t237 => (if t237.toList = ([112, 111, 115, 116, 109, 97, 115, 116, 101, 114] : List UInt8) then ((postriderref04_Lower.f k a0_1).bind fun t238 => (some ((⟨#[112, 111, 115, 116, 109, 97, 115, 116, 101, 114]⟩ : ByteArray), t238))) else ((postriderref04_Lower.f k a0_1).bind fun t239 => (some (a0_0, t239))))
theorem postriderref05_Normal.mono : ∀ a0 a1 k, LeO (postriderref05_Normal.f k a0 a1) (postriderref05_Normal.f (k + 1) a0 a1) := by
 intro a0 a1 k
 unfold postriderref05_Normal.f
 repeat' first
   | (with_reducible exact postriderref04_Lower.mono _ _)
   | (with_reducible exact LeO.refl _)
   | (with_reducible exact LeO.none _)
   | (with_reducible refine LeO.ite ?_ ?_)
   | (with_reducible refine LeO.bind ?_ (fun _ => ?_))
   | exact postriderref04_Lower.mono _ _
   | exact LeO.none _
   | refine LeO.ite ?_ ?_
   | refine LeO.bind ?_ (fun _ => ?_)
set_option maxHeartbeats 8000000 in
set_option maxRecDepth 100000 in
theorem postriderref05_Normal.calls (k : Nat) (a0_0 : ByteArray) (a0_1 : ByteArray) (r1 : ByteArray) (r2 : ByteArray) (w : World) (h : postriderref05_Normal.f k a0_0 a0_1 = some (r1, r2)) :
  Calls Tryz.prog 41 #[.agg #[.string a0_0, .string a0_1]] w fun e w' => e = .returned (.agg #[.string r1, .string r2]) ∧ Below w.heap.size w w' := by
 have hu46 := Tryz.underlying46
 have HB := Aside0.mk (Below.refl w.heap.size w)
 have H : ((postriderref04_Lower.f k a0_0).bind fun t237 => (if t237.toList = ([112, 111, 115, 116, 109, 97, 115, 116, 101, 114] : List UInt8) then ((postriderref04_Lower.f k a0_1).bind fun t238 => (some ((⟨#[112, 111, 115, 116, 109, 97, 115, 116, 101, 114]⟩ : ByteArray), t238))) else ((postriderref04_Lower.f k a0_1).bind fun t239 => (some (a0_0, t239))))) = some (r1, r2) := h
 clear h
 replace H := Option.bind_eq_some_iff.mp H
 obtain ⟨t237, A20, H⟩ := H
 replace H : (if t237.toList = ([112, 111, 115, 116, 109, 97, 115, 116, 101, 114] : List UInt8) then ((postriderref04_Lower.f k a0_1).bind fun t238 => (some ((⟨#[112, 111, 115, 116, 109, 97, 115, 116, 101, 114]⟩ : ByteArray), t238))) else ((postriderref04_Lower.f k a0_1).bind fun t239 => (some (a0_0, t239)))) = some (r1, r2) := H
 have A2 := Aside0.mk A20
 clear A20
 by_cases c3 : t237.toList = ([112, 111, 115, 116, 109, 97, 115, 116, 101, 114] : List UInt8)
 ·rw [if_pos c3] at H
  have c3b0 : (t237.toList == ([112, 111, 115, 116, 109, 97, 115, 116, 101, 114] : List UInt8)) = true := beq_iff_eq.mpr c3
  have c3b1 : (t237.toList != ([112, 111, 115, 116, 109, 97, 115, 116, 101, 114] : List UInt8)) = false := bne_eq_false_iff_eq.mpr c3
  clear c3
  replace H := Option.bind_eq_some_iff.mp H
  obtain ⟨t238, A40, H⟩ := H
  replace H : (some ((⟨#[112, 111, 115, 116, 109, 97, 115, 116, 101, 114]⟩ : ByteArray), t238)) = some (r1, r2) := H
  have A4 := Aside0.mk A40
  clear A40
  simp only [Option.some.injEq, Prod.mk.injEq] at H
  obtain ⟨rfl, rfl⟩ := H
  go_enter Tryz.func41, Tryz.ntmps41
  go_wp2_with (first | ((with_reducible refine gate_dst (N := 1) rfl ?_); refine box_event ?hg (N := 1) ?hd (cs := #[.string a0_0, .string a0_1]) (t := 46) ?hr ?_; (case hd => rfl); (case hg => rfl); (case hr => first | (go_simp; done) | (go_simp; rfl)); intro gb235 hg w5 hbox hb; have n0_ := Aside0.mk (below_step bl hb); have n1_ := Aside0.mk (hbox); have n2_ := Aside0.mk ((by rw [hg]; exact (below_size bl) : w.heap.size ≤ gb235)); have n3_ := Aside0.mk ((by rw [hg]; exact (below_size bl) : w.heap.size ≤ gb235)); clear HB; have HB := n0_; have BK235 := n1_; have GW235 := n2_; have GE235 := n3_; clear n0_ n1_ n2_ n3_; clear hb hbox hg) | ((with_reducible refine gate_dst (N := 2) rfl ?_); refine box_event ?hg (N := 2) ?hd (cs := #[.string (⟨#[]⟩ : ByteArray), .string (⟨#[]⟩ : ByteArray)]) (t := 46) ?hr ?_; (case hd => rfl); (case hg => rfl); (case hr => first | (go_simp; done) | (go_simp; rfl)); intro gb236 hg w6 hbox hb; have n0_ := Aside0.mk (kb BK235.out hb); have n1_ := Aside0.mk (below_step bl hb); have n2_ := Aside0.mk (hbox); have n3_ := Aside0.mk ((by rw [hg]; exact (below_size bl) : w.heap.size ≤ gb236)); have n4_ := Aside0.mk ((by rw [hg]; exact (below_size bl) : w.heap.size ≤ gb236)); have n5_ := Aside0.mk ((by rw [hg]; exact Nat.ne_of_lt (blk_lt (bk BK235.out)) : gb235 ≠ gb236)); have n6_ := Aside0.mk ((by rw [hg]; exact Nat.ne_of_gt (blk_lt (bk BK235.out)) : gb236 ≠ gb235)); clear BK235; clear HB; have BK235 := n0_; have HB := n1_; have BK236 := n2_; have GW236 := n3_; have GE236 := n4_; have NB235_236 := n5_; have NB236_235 := n6_; clear n0_ n1_ n2_ n3_ n4_ n5_ n6_; clear hb hbox hg; have hnb7 := NB235_236.out; have hnc7 := NB236_235.out; have hcz8_0 : w6.cell? ⟨gb235, 0, none⟩ = some (.string a0_0) := (blk_cell BK235.out 0).trans rfl; have hcz8_1 : w6.cell? ⟨gb235, 1, none⟩ = some (.string a0_1) := (blk_cell BK235.out 1).trans rfl; have hfz8_0 := blk_frozen BK235.out 0; have hfz8_1 := blk_frozen BK235.out 1) | ((with_reducible refine gate_callee (f := 76) rfl ?_); refine goesL_ (some 5) rfl rfl Tryz.func76 (by kernel_rfl) rfl #[.string a0_0] rfl ml ?_; (with_reducible refine (postriderref04_Lower.calls k a0_0 t237 _ A2.out).mono ?_); rintro e w9 ⟨rfl, hb⟩; refine ⟨_, rfl, ?_⟩; have n0_ := Aside0.mk (kb BK235.out hb); have n1_ := Aside0.mk (kb BK236.out hb); have n2_ := Aside0.mk (below_step bl hb); clear BK235; clear BK236; clear HB; have BK235 := n0_; have BK236 := n1_; have HB := n2_; clear n0_ n1_ n2_; (try clear hb); (try clear hb2); (try clear hk); (try clear hi); have hcz10_0 : w9.cell? ⟨gb235, 0, none⟩ = some (.string a0_0) := (blk_cell BK235.out 0).trans rfl; have hcz10_1 : w9.cell? ⟨gb235, 1, none⟩ = some (.string a0_1) := (blk_cell BK235.out 1).trans rfl; have hfz10_0 := blk_frozen BK235.out 0; have hfz10_1 := blk_frozen BK235.out 1) | ((with_reducible refine gate_callee (f := 76) rfl ?_); refine goesL_ (some 10) rfl rfl Tryz.func76 (by kernel_rfl) rfl #[.string a0_1] rfl ml ?_; (with_reducible refine (postriderref04_Lower.calls k a0_1 t238 _ A4.out).mono ?_); rintro e w11 ⟨rfl, hb⟩; refine ⟨_, rfl, ?_⟩; have n0_ := Aside0.mk (blk_below (g := gb235) (o := .cells #[.string (⟨#[112, 111, 115, 116, 109, 97, 115, 116, 101, 114]⟩ : ByteArray), .string a0_1] 46 (0, 0)) (by (with_reducible repeat (first | refine blk_drewN ?_ _ | refine blk_drew ?_ | refine blk_alloc ?_ _)); refine blk_put (cs := #[.string a0_0, .string a0_1]) ?_ 0 _ rfl; (with_reducible repeat (first | refine blk_drewN ?_ _ | refine blk_drew ?_ | refine blk_alloc ?_ _)); exact BK235.out) hb); have n1_ := Aside0.mk (kb BK236.out hb); have n2_ := Aside0.mk (below_step bl hb); clear BK235; clear BK236; clear HB; have BK235 := n0_; have BK236 := n1_; have HB := n2_; clear n0_ n1_ n2_; (try clear hb); (try clear hb2); (try clear hk); (try clear hi); have hcz12_0 : w11.cell? ⟨gb235, 0, none⟩ = some (.string (⟨#[112, 111, 115, 116, 109, 97, 115, 116, 101, 114]⟩ : ByteArray)) := (blk_cell BK235.out 0).trans rfl; have hcz12_1 : w11.cell? ⟨gb235, 1, none⟩ = some (.string a0_1) := (blk_cell BK235.out 1).trans rfl; have hfz12_0 := blk_frozen BK235.out 0; have hfz12_1 := blk_frozen BK235.out 1; have hcz13_0 : w11.cell? ⟨gb236, 0, none⟩ = some (.string (⟨#[]⟩ : ByteArray)) := (blk_cell BK236.out 0).trans rfl; have hcz13_1 : w11.cell? ⟨gb236, 1, none⟩ = some (.string (⟨#[]⟩ : ByteArray)) := (blk_cell BK236.out 1).trans rfl; have hfz13_0 := blk_frozen BK236.out 0; have hfz13_1 := blk_frozen BK236.out 1))
  refine bodyPost_ret (results_cell_row rfl _ _ gb236 46 #[.string (⟨#[112, 111, 115, 116, 109, 97, 115, 116, 101, 114]⟩ : ByteArray), .string t238] (0, 0) _ rfl (by (with_reducible repeat (first | refine blk_drewN ?_ _ | refine blk_drew ?_ | refine blk_alloc ?_ _)); refine blk_put (cs := #[.string (⟨#[112, 111, 115, 116, 109, 97, 115, 116, 101, 114]⟩ : ByteArray), .string (⟨#[]⟩ : ByteArray)]) ?_ 1 _ rfl; (with_reducible repeat (first | refine blk_drewN ?_ _ | refine blk_drew ?_ | refine blk_alloc ?_ _)); refine blk_put (cs := #[.string (⟨#[]⟩ : ByteArray), .string (⟨#[]⟩ : ByteArray)]) ?_ 0 _ rfl; (with_reducible repeat (first | refine blk_drewN ?_ _ | refine blk_drew ?_ | refine blk_alloc ?_ _)); refine blk_far ?_ NB236_235.out _; (with_reducible repeat (first | refine blk_drewN ?_ _ | refine blk_drew ?_ | refine blk_alloc ?_ _)); exact BK236.out) Tryz.underlying46 rfl (by kernel_rfl)) rfl ?_
  exact ⟨by first | rfl | (simp [bneNil]; done) | (simp [errW_none, errW_some] <;> rfl) | (simp [*, errW_none, errW_some] <;> rfl), by repeat (first | (with_reducible first | exact HB.out | apply below_alloc | apply pw_below_drewN | apply below_drew1 | refine below_set ?_ GE235.out | refine below_set ?_ GE236.out) | exact HB.out)⟩
 ·rw [if_neg c3] at H
  have c3b0 : (t237.toList == ([112, 111, 115, 116, 109, 97, 115, 116, 101, 114] : List UInt8)) = false := beq_eq_false_iff_ne.mpr c3
  have c3b1 : (t237.toList != ([112, 111, 115, 116, 109, 97, 115, 116, 101, 114] : List UInt8)) = true := bne_iff_ne.mpr c3
  replace H := Option.bind_eq_some_iff.mp H
  obtain ⟨t239, A140, H⟩ := H
  replace H : (some (a0_0, t239)) = some (r1, r2) := H
  have A14 := Aside0.mk A140
  clear A140
  simp only [Option.some.injEq, Prod.mk.injEq] at H
  obtain ⟨rfl, rfl⟩ := H
  go_enter Tryz.func41, Tryz.ntmps41
  go_wp2_with (first | ((with_reducible refine gate_dst (N := 1) rfl ?_); refine box_event ?hg (N := 1) ?hd (cs := #[.string a0_0, .string a0_1]) (t := 46) ?hr ?_; (case hd => rfl); (case hg => rfl); (case hr => first | (go_simp; done) | (go_simp; rfl)); intro gb235 hg w15 hbox hb; have n0_ := Aside0.mk (below_step bl hb); have n1_ := Aside0.mk (hbox); have n2_ := Aside0.mk ((by rw [hg]; exact (below_size bl) : w.heap.size ≤ gb235)); have n3_ := Aside0.mk ((by rw [hg]; exact (below_size bl) : w.heap.size ≤ gb235)); clear HB; have HB := n0_; have BK235 := n1_; have GW235 := n2_; have GE235 := n3_; clear n0_ n1_ n2_ n3_; clear hb hbox hg) | ((with_reducible refine gate_dst (N := 2) rfl ?_); refine box_event ?hg (N := 2) ?hd (cs := #[.string (⟨#[]⟩ : ByteArray), .string (⟨#[]⟩ : ByteArray)]) (t := 46) ?hr ?_; (case hd => rfl); (case hg => rfl); (case hr => first | (go_simp; done) | (go_simp; rfl)); intro gb236 hg w16 hbox hb; have n0_ := Aside0.mk (kb BK235.out hb); have n1_ := Aside0.mk (below_step bl hb); have n2_ := Aside0.mk (hbox); have n3_ := Aside0.mk ((by rw [hg]; exact (below_size bl) : w.heap.size ≤ gb236)); have n4_ := Aside0.mk ((by rw [hg]; exact (below_size bl) : w.heap.size ≤ gb236)); have n5_ := Aside0.mk ((by rw [hg]; exact Nat.ne_of_lt (blk_lt (bk BK235.out)) : gb235 ≠ gb236)); have n6_ := Aside0.mk ((by rw [hg]; exact Nat.ne_of_gt (blk_lt (bk BK235.out)) : gb236 ≠ gb235)); clear BK235; clear HB; have BK235 := n0_; have HB := n1_; have BK236 := n2_; have GW236 := n3_; have GE236 := n4_; have NB235_236 := n5_; have NB236_235 := n6_; clear n0_ n1_ n2_ n3_ n4_ n5_ n6_; clear hb hbox hg; have hnb17 := NB235_236.out; have hnc17 := NB236_235.out; have hcz18_0 : w16.cell? ⟨gb235, 0, none⟩ = some (.string a0_0) := (blk_cell BK235.out 0).trans rfl; have hcz18_1 : w16.cell? ⟨gb235, 1, none⟩ = some (.string a0_1) := (blk_cell BK235.out 1).trans rfl; have hfz18_0 := blk_frozen BK235.out 0; have hfz18_1 := blk_frozen BK235.out 1) | ((with_reducible refine gate_callee (f := 76) rfl ?_); refine goesL_ (some 5) rfl rfl Tryz.func76 (by kernel_rfl) rfl #[.string a0_0] rfl ml ?_; (with_reducible refine (postriderref04_Lower.calls k a0_0 t237 _ A2.out).mono ?_); rintro e w19 ⟨rfl, hb⟩; refine ⟨_, rfl, ?_⟩; have n0_ := Aside0.mk (kb BK235.out hb); have n1_ := Aside0.mk (kb BK236.out hb); have n2_ := Aside0.mk (below_step bl hb); clear BK235; clear BK236; clear HB; have BK235 := n0_; have BK236 := n1_; have HB := n2_; clear n0_ n1_ n2_; (try clear hb); (try clear hb2); (try clear hk); (try clear hi); have hcz20_0 : w19.cell? ⟨gb235, 0, none⟩ = some (.string a0_0) := (blk_cell BK235.out 0).trans rfl; have hcz20_1 : w19.cell? ⟨gb235, 1, none⟩ = some (.string a0_1) := (blk_cell BK235.out 1).trans rfl; have hfz20_0 := blk_frozen BK235.out 0; have hfz20_1 := blk_frozen BK235.out 1) | ((with_reducible refine gate_callee (f := 76) rfl ?_); refine goesL_ (some 10) rfl rfl Tryz.func76 (by kernel_rfl) rfl #[.string a0_1] rfl ml ?_; (with_reducible refine (postriderref04_Lower.calls k a0_1 t239 _ A14.out).mono ?_); rintro e w21 ⟨rfl, hb⟩; refine ⟨_, rfl, ?_⟩; have n0_ := Aside0.mk (kb BK235.out hb); have n1_ := Aside0.mk (kb BK236.out hb); have n2_ := Aside0.mk (below_step bl hb); clear BK235; clear BK236; clear HB; have BK235 := n0_; have BK236 := n1_; have HB := n2_; clear n0_ n1_ n2_; (try clear hb); (try clear hb2); (try clear hk); (try clear hi); have hcz22_0 : w21.cell? ⟨gb235, 0, none⟩ = some (.string a0_0) := (blk_cell BK235.out 0).trans rfl; have hcz22_1 : w21.cell? ⟨gb235, 1, none⟩ = some (.string a0_1) := (blk_cell BK235.out 1).trans rfl; have hfz22_0 := blk_frozen BK235.out 0; have hfz22_1 := blk_frozen BK235.out 1; have hcz23_0 : w21.cell? ⟨gb236, 0, none⟩ = some (.string (⟨#[]⟩ : ByteArray)) := (blk_cell BK236.out 0).trans rfl; have hcz23_1 : w21.cell? ⟨gb236, 1, none⟩ = some (.string (⟨#[]⟩ : ByteArray)) := (blk_cell BK236.out 1).trans rfl; have hfz23_0 := blk_frozen BK236.out 0; have hfz23_1 := blk_frozen BK236.out 1))
  refine bodyPost_ret (results_cell_row rfl _ _ gb236 46 #[.string a0_0, .string t239] (0, 0) _ rfl (by (with_reducible repeat (first | refine blk_drewN ?_ _ | refine blk_drew ?_ | refine blk_alloc ?_ _)); refine blk_put (cs := #[.string a0_0, .string (⟨#[]⟩ : ByteArray)]) ?_ 1 _ rfl; (with_reducible repeat (first | refine blk_drewN ?_ _ | refine blk_drew ?_ | refine blk_alloc ?_ _)); refine blk_put (cs := #[.string (⟨#[]⟩ : ByteArray), .string (⟨#[]⟩ : ByteArray)]) ?_ 0 _ rfl; (with_reducible repeat (first | refine blk_drewN ?_ _ | refine blk_drew ?_ | refine blk_alloc ?_ _)); refine blk_far ?_ NB236_235.out _; (with_reducible repeat (first | refine blk_drewN ?_ _ | refine blk_drew ?_ | refine blk_alloc ?_ _)); exact BK236.out) Tryz.underlying46 rfl (by kernel_rfl)) rfl ?_
  exact ⟨by first | rfl | (simp [bneNil]; done) | (simp [errW_none, errW_some] <;> rfl) | (simp [*, errW_none, errW_some] <;> rfl), by repeat (first | (with_reducible first | exact HB.out | apply below_alloc | apply pw_below_drewN | apply below_drew1 | refine below_set ?_ GE235.out | refine below_set ?_ GE236.out) | exact HB.out)⟩

/-! ### postriderref04_Split: function 160 -/
def postriderref04_Split.l0 : Nat → ByteArray → Int → List ByteArray → Int → Int → Option (List ByteArray)
  | 0, _, _, _, _, _ => none
  | k + 1, x0, x1, x5, x6, x7 => if x7 < (x0.size : Int) then (if 0 ≤ x7 then (if (bt x0 x7) = x1 then (if 0 ≤ x6 then (if x6 ≤ x7 then (if x7 ≤ (x0.size : Int) then (if x5.length < 8796093022208 then (postriderref04_Split.l0 k x0 x1 (x5 ++ [x0.extract (x6 : Int).toNat (x7 : Int).toNat]) (wrap64 (x7 + 1)) (wrap64 (x7 + 1))) else (none)) else (none)) else (none)) else (none)) else (postriderref04_Split.l0 k x0 x1 x5 x6 (wrap64 (x7 + 1)))) else (none)) else (if 0 ≤ x6 then (if x6 ≤ (x0.size : Int) then (if x5.length < 8796093022208 then (some (x5 ++ [x0.extract (x6 : Int).toNat x0.size])) else (none)) else (none)) else (none))
def postriderref04_Split.f (k : Nat) (a0 : ByteArray) (a1 : Int) : Option (List ByteArray) := postriderref04_Split.l0 k a0 a1 ([] : List ByteArray) 0 0
theorem postriderref04_Split.mono_l : ∀ k, (∀ y0 y1 y2 y3 y4, LeO (postriderref04_Split.l0 k y0 y1 y2 y3 y4) (postriderref04_Split.l0 (k + 1) y0 y1 y2 y3 y4))
  | 0 => fun _ _ _ _ _ r h => by simp [postriderref04_Split.l0] at h
  | k + 1 => by
    have ih0 := postriderref04_Split.mono_l k
    · intro y0 y1 y2 y3 y4
      unfold postriderref04_Split.l0
      repeat' first
      | (with_reducible exact ih0 _ _ _ _ _)
      | (with_reducible exact LeO.refl _)
      | (with_reducible exact LeO.none _)
      | (with_reducible refine LeO.ite ?_ ?_)
      | (with_reducible refine LeO.bind ?_ (fun _ => ?_))
      | exact ih0 _ _ _ _ _
      | exact LeO.none _
      | refine LeO.ite ?_ ?_
      | refine LeO.bind ?_ (fun _ => ?_)
theorem postriderref04_Split.mono : ∀ a0 a1 k, LeO (postriderref04_Split.f k a0 a1) (postriderref04_Split.f (k + 1) a0 a1) := by
  intro a0 a1 k
  have ih0 := postriderref04_Split.mono_l k
  unfold postriderref04_Split.f
  repeat' first
      | (with_reducible exact ih0 _ _ _ _ _)
      | (with_reducible exact LeO.refl _)
      | (with_reducible exact LeO.none _)
      | (with_reducible refine LeO.ite ?_ ?_)
      | (with_reducible refine LeO.bind ?_ (fun _ => ?_))
      | exact ih0 _ _ _ _ _
      | exact LeO.none _
      | refine LeO.ite ?_ ?_
      | refine LeO.bind ?_ (fun _ => ?_)
set_option maxHeartbeats 8000000 in
set_option maxRecDepth 100000 in
theorem postriderref04_Split.calls (k : Nat) (a0 : ByteArray) (a1 : Int) (r : List ByteArray) (w : World) (h : postriderref04_Split.f k a0 a1 = some r) :
    Calls Tryz.prog 160 #[.string a0, .int .u8 a1] w fun e w' => ∃ v0_ : Value, e = .returned (v0_) ∧ Kd.R Kd.string 9 w' w.heap.size (fun _ => True) v0_ r ∧ Below w.heap.size w w' := by
  have HB := Aside0.mk (Below.refl w.heap.size w)
  have H : (postriderref04_Split.l0 k a0 a1 ([] : List ByteArray) 0 0) = some r := h
  clear h
  have H' := Aside0.mk H
  clear H
  go_enter Tryz.func160, Tryz.ntmps160
  go_wp2
  go_loopg [5, 6, 7] k (fun kq v5 v6 v7 w' => ∃ (x5_1 : List ByteArray) (x6_1 : Int) (x7_1 : Int), v6 = .int .i64 x6_1 ∧ v7 = .int .i64 x7_1 ∧ Aside0 (postriderref04_Split.l0 kq a0 a1 x5_1 x6_1 x7_1 = some r) ∧ Aside0 (kq ≤ k) ∧ Aside0 (Kd.R Kd.string 9 w' w.heap.size (fun _ => True) v5 x5_1) ∧ Aside0 (Below w.heap.size w w'))
  case atStart => exact ⟨(([] : List ByteArray)), (0), (0), (by first | rfl | (simp; done) | (simp [*]; done)), (by first | rfl | (simp; done) | (simp [*]; done)), H', ⟨Nat.le_refl _⟩, ⟨by first | exact Kd.R_nil _ _ _ _ _ | exact Kd.N_nil _ _ _ _ _ | exact Kd.V_nil _ _ _ _ _ | exact Kd.Q_nil _ _ _ _ _ | exact Kd.S_nil _ _ _ _ _⟩, ⟨by repeat (first | (with_reducible first | exact HB.out | apply below_alloc | apply pw_below_drewN | apply below_drew1) | exact HB.out)⟩⟩
  case round =>
    clear H'
    try clear c1
    try clear p2
    obtain ⟨x5_1, x6_1, x7_1, rfl, rfl, HA, HK1, HO_5, HB⟩ := hrel
    cases gk with
    | zero => exact absurd HA.out (by simp [postriderref04_Split.l0])
    | succ k1 =>
      have H := HA.out
      clear HA
      simp only [postriderref04_Split.l0] at H
      by_cases c3 : x7_1 < (a0.size : Int)
      · rw [if_pos c3] at H
        have c3b0 : decide (x7_1 < (a0.size : Int)) = true := decide_eq_true c3
        clear c3
        by_cases c4 : 0 ≤ x7_1
        · rw [if_pos c4] at H
          have c4b0 : decide (0 ≤ x7_1) = true := decide_eq_true c4
          clear c4
          by_cases c6 : (bt a0 x7_1) = a1
          · rw [if_pos c6] at H
            have c6b0 : ((bt a0 x7_1) == a1) = true := beq_iff_eq.mpr c6
            have c6b1 : ((bt a0 x7_1) != a1) = false := bne_eq_false_iff_eq.mpr c6
            clear c6
            by_cases c7 : 0 ≤ x6_1
            · rw [if_pos c7] at H
              have c7b0 := eq_true c7
              have c7b1 : decide (0 ≤ x6_1) = true := decide_eq_true c7
              clear c7
              by_cases c8 : x6_1 ≤ x7_1
              · rw [if_pos c8] at H
                have c8b0 := eq_true c8
                have c8b1 : decide (x6_1 ≤ x7_1) = true := decide_eq_true c8
                clear c8
                by_cases c9 : x7_1 ≤ (a0.size : Int)
                · rw [if_pos c9] at H
                  have c9b0 := eq_true c9
                  have c9b1 : decide (x7_1 ≤ (a0.size : Int)) = true := decide_eq_true c9
                  clear c9
                  by_cases c10 : x5_1.length < 8796093022208
                  · rw [if_pos c10] at H
                    have LMc10 := Aside0.mk c10
                    clear c10
                    obtain ⟨y240, hy240⟩ : ∃ y_ : List ByteArray, y_ = (x5_1 ++ [a0.extract (x6_1 : Int).toNat (x7_1 : Int).toNat]) := ⟨_, rfl⟩
                    replace H : (postriderref04_Split.l0 k1 a0 a1 y240 (wrap64 (x7_1 + 1)) (wrap64 (x7_1 + 1))) = some r := by first | (rw [hy240]; with_reducible exact H) | (have H2_ := (Option.bind_some _ _).symm.trans H; rw [hy240]; with_reducible exact H2_) | (have H2_ := (Option.bind_some _ _).symm.trans H; with_reducible exact H2_) | with_reducible exact H | (rw [hy240]; exact H) | exact H
                    have Ny240 := Aside0.mk hy240
                    clear hy240
                    have H' := Aside0.mk H
                    clear H
                    have p5 : 0 ≤ (x7_1 : Int) := of_decide_eq_true (by first | (with_reducible assumption) | assumption)
                    have q5 : x7_1 < (a0.size : Int) := of_decide_eq_true (by first | (with_reducible assumption) | assumption)
                    have hx5 := bt_at a0 x7_1
                    replace p5 := eq_true p5
                    replace q5 := eq_true q5
                    go_wp2_with (first | ((with_reducible refine gate_builtin (b := .append) (xs := #[.tmp 19, .tmp 24]) rfl ?_); at_builtin; refine Kd.R_append Kd.string (w0 := w) w.heap.size rfl (.tmp 19) (.tmp 24) 84 9 (.string ⟨#[]⟩) 16 rfl Tryz.underlying84 info9 rfl (by decide) (by omega) u5 x5_1 (a0.extract (x6_1 : Int).toNat (x7_1 : Int).toNat) [.string (a0.extract (x6_1 : Int).toNat (x7_1 : Int).toNat)] (fun _ => True) (fun _ => False) rfl rfl ?aP (fun _ hk => hk.elim) ?aF ?aO ?aB ?aS ?aL ?_; (case aP => exact rfl); (case aB => exact (by repeat (first | (with_reducible first | exact HB.out | apply below_alloc | apply pw_below_drewN | apply below_drew1) | exact HB.out))); (case aF => exact (fun _ _ => trivial)); (case aO => exact (by (with_reducible repeat (first | apply Kd.R_alloc | apply Kd.R_drewN | apply Kd.R_drew)); exact HO_5.out)); (case aS => exact (below_size (by repeat (first | (with_reducible first | exact HB.out | apply below_alloc | apply pw_below_drewN | apply below_drew1) | exact HB.out)))); (case aL => have := LMc10.out; omega); intro v241 w11 ho hb hg hat; rw [← Ny240.out] at ho; have n0_ := Aside0.mk (hb); have n1_ := Aside0.mk (ho); clear HB; clear HO_5; have HB := n0_; have HO242 := n1_; clear n0_ n1_; clear ho hb hg hat))
                    go_roundg k1
                    case measure => have := HK1.out; omega
                    case rel => exact ⟨(y240), (wrap64 (x7_1 + 1)), (wrap64 (x7_1 + 1)), (by first | rfl | (simp; done) | (simp [*]; done)), (by first | rfl | (simp; done) | (simp [*]; done)), H', ⟨by have := HK1.out; omega⟩, ⟨by (with_reducible repeat (first | apply Kd.R_alloc | apply Kd.R_drewN | apply Kd.R_drew)); exact HO242.out⟩, ⟨by repeat (first | (with_reducible first | exact HB.out | apply below_alloc | apply pw_below_drewN | apply below_drew1) | exact HB.out)⟩⟩
                  · rw [if_neg c10] at H
                    exact absurd H (by simp)
                · rw [if_neg c9] at H
                  exact absurd H (by simp)
              · rw [if_neg c8] at H
                exact absurd H (by simp)
            · rw [if_neg c7] at H
              exact absurd H (by simp)
          · rw [if_neg c6] at H
            have c6b0 : ((bt a0 x7_1) == a1) = false := beq_eq_false_iff_ne.mpr c6
            have c6b1 : ((bt a0 x7_1) != a1) = true := bne_iff_ne.mpr c6
            have H' := Aside0.mk H
            clear H
            have p5 : 0 ≤ (x7_1 : Int) := of_decide_eq_true (by first | (with_reducible assumption) | assumption)
            have q5 : x7_1 < (a0.size : Int) := of_decide_eq_true (by first | (with_reducible assumption) | assumption)
            have hx5 := bt_at a0 x7_1
            replace p5 := eq_true p5
            replace q5 := eq_true q5
            go_wp2
            go_roundg k1
            case measure => have := HK1.out; omega
            case rel => exact ⟨(x5_1), (x6_1), (wrap64 (x7_1 + 1)), (by first | rfl | (simp; done) | (simp [*]; done)), (by first | rfl | (simp; done) | (simp [*]; done)), H', ⟨by have := HK1.out; omega⟩, ⟨by (with_reducible repeat (first | apply Kd.R_alloc | apply Kd.R_drewN | apply Kd.R_drew)); exact HO_5.out⟩, ⟨by repeat (first | (with_reducible first | exact HB.out | apply below_alloc | apply pw_below_drewN | apply below_drew1) | exact HB.out)⟩⟩
        · rw [if_neg c4] at H
          exact absurd H (by simp)
      · rw [if_neg c3] at H
        have c3b0 : decide (x7_1 < (a0.size : Int)) = false := decide_eq_false c3
        clear c3
        by_cases c12 : 0 ≤ x6_1
        · rw [if_pos c12] at H
          have c12b0 := eq_true c12
          have c12b1 : decide (0 ≤ x6_1) = true := decide_eq_true c12
          clear c12
          by_cases c13 : x6_1 ≤ (a0.size : Int)
          · rw [if_pos c13] at H
            have c13b0 := eq_true c13
            have c13b1 : decide (x6_1 ≤ (a0.size : Int)) = true := decide_eq_true c13
            clear c13
            by_cases c14 : x5_1.length < 8796093022208
            · rw [if_pos c14] at H
              have LMc14 := Aside0.mk c14
              clear c14
              obtain ⟨y243, hy243⟩ : ∃ y_ : List ByteArray, y_ = (x5_1 ++ [a0.extract (x6_1 : Int).toNat a0.size]) := ⟨_, rfl⟩
              replace H : (some y243) = some r := by first | (rw [hy243]; with_reducible exact H) | (have H2_ := (Option.bind_some _ _).symm.trans H; rw [hy243]; with_reducible exact H2_) | (have H2_ := (Option.bind_some _ _).symm.trans H; with_reducible exact H2_) | with_reducible exact H | (rw [hy243]; exact H) | exact H
              have Ny243 := Aside0.mk hy243
              clear hy243
              obtain rfl := Option.some.inj H
              go_wp2_with (first | ((with_reducible refine gate_builtin (b := .append) (xs := #[.tmp 28, .tmp 32]) rfl ?_); at_builtin; refine Kd.R_append Kd.string (w0 := w) w.heap.size rfl (.tmp 28) (.tmp 32) 84 9 (.string ⟨#[]⟩) 16 rfl Tryz.underlying84 info9 rfl (by decide) (by omega) u5 x5_1 (a0.extract (x6_1 : Int).toNat a0.size) [.string (a0.extract (x6_1 : Int).toNat a0.size)] (fun _ => True) (fun _ => False) rfl rfl ?aP (fun _ hk => hk.elim) ?aF ?aO ?aB ?aS ?aL ?_; (case aP => exact rfl); (case aB => exact (by repeat (first | (with_reducible first | exact HB.out | apply below_alloc | apply pw_below_drewN | apply below_drew1) | exact HB.out))); (case aF => exact (fun _ _ => trivial)); (case aO => exact (by (with_reducible repeat (first | apply Kd.R_alloc | apply Kd.R_drewN | apply Kd.R_drew)); exact HO_5.out)); (case aS => exact (below_size (by repeat (first | (with_reducible first | exact HB.out | apply below_alloc | apply pw_below_drewN | apply below_drew1) | exact HB.out)))); (case aL => have := LMc14.out; omega); intro v244 w15 ho hb hg hat; rw [← Ny243.out] at ho; have n0_ := Aside0.mk (hb); have n1_ := Aside0.mk (ho); clear HB; clear HO_5; have HB := n0_; have HO245 := n1_; clear n0_ n1_; clear ho hb hg hat))
              go_ret
              exact ⟨_, by first | rfl | (simp [errW_none, errW_some] <;> rfl) | (simp [*, errW_none, errW_some] <;> rfl), by (with_reducible repeat (first | apply Kd.R_alloc | apply Kd.R_drewN | apply Kd.R_drew)); exact HO245.out, by repeat (first | (with_reducible first | exact HB.out | apply below_alloc | apply pw_below_drewN | apply below_drew1) | exact HB.out)⟩
            · rw [if_neg c14] at H
              exact absurd H (by simp)
          · rw [if_neg c13] at H
            exact absurd H (by simp)
        · rw [if_neg c12] at H
          exact absurd H (by simp)

end Go.Proofs.YtacjnapgdikhbaaGreatDoor.Q
end
section
namespace Go.Proofs.YtacjnapgdikhbaaGreatDoor.Q
open Go.RowKit Go.Proofs.YtacjnapgdikhbaaGreatDoorW.PrintWords Go.Proofs.YtacjnapgdikhbaaGreatDoorW.PrintLast Go.Proofs.YtacjnapgdikhbaaGreatDoorW.PrintMore
attribute [local go_sem] max2_int min2_int max_two min_two max_three min_three max_four min_four   -- for this text's walks alone
set_option linter.unusedVariables false
set_option linter.unusedSimpArgs false

/-! ### postriderref04_Number: function 161 -/
mutual
def postriderref04_Number.j0 : Nat → ByteArray → Int → Option (Int × Int)
 | 0, _, _ => none
 | k + 1, x0, x1 => if x1 > 15 then (postriderref04_Number.j1 k x0 15) else (postriderref04_Number.j1 k x0 x1)
def postriderref04_Number.j1 : Nat → ByteArray → Int → Option (Int × Int)
 | 0, _, _ => none
 | k + 1, x0, x1 => if (x0.size : Int) < 1 then (postriderref04_Number.j2 k x0 true) else (postriderref04_Number.j2 k x0 (decide ((x0.size : Int) > x1)))
def postriderref04_Number.j2 : Nat → ByteArray → Bool → Option (Int × Int)
 | 0, _, _ => none
 | k + 1, x0, x20 => if x20 = true then (some (0, 5)) else (postriderref04_Number.l0 k x0 0 0)
def postriderref04_Number.l0 : Nat → ByteArray → Int → Int → Option (Int × Int)
 | 0, _, _, _ => none
 | k + 1, x0, x6, x7 => if x7 < (x0.size : Int) then (if 0 ≤ x7 then (if (bt x0 x7) < 48 then (some (0, 5)) else (if (bt x0 x7) > 57 then (some (0, 5)) else (postriderref04_Number.l0 k x0 (wrap64 ((wrap64 (10 * x6)) + (((bt x0 x7) - 48) % 256))) (wrap64 (x7 + 1))))) else (none)) else (some (x6, 0))
end
def postriderref04_Number.f (k : Nat) (a0 : ByteArray) (a1 : Int) : Option (Int × Int) := if a1 < 1 then (postriderref04_Number.j0 k a0 1) else (postriderref04_Number.j0 k a0 a1)
theorem postriderref04_Number.mono_l : ∀ k, (∀ y0 y1, LeO (postriderref04_Number.j0 k y0 y1) (postriderref04_Number.j0 (k + 1) y0 y1)) ∧ (∀ y0 y1, LeO (postriderref04_Number.j1 k y0 y1) (postriderref04_Number.j1 (k + 1) y0 y1)) ∧ (∀ y0 y1, LeO (postriderref04_Number.j2 k y0 y1) (postriderref04_Number.j2 (k + 1) y0 y1)) ∧ (∀ y0 y1 y2, LeO (postriderref04_Number.l0 k y0 y1 y2) (postriderref04_Number.l0 (k + 1) y0 y1 y2))
 | 0 => ⟨fun _ _ r h => by simp [postriderref04_Number.j0] at h, fun _ _ r h => by simp [postriderref04_Number.j1] at h, fun _ _ r h => by simp [postriderref04_Number.j2] at h, fun _ _ _ r h => by simp [postriderref04_Number.l0] at h⟩
 | k + 1 => by
  obtain ⟨ih0, ih1, ih2, ih3⟩ := postriderref04_Number.mono_l k
  refine ⟨?_, ?_, ?_, ?_⟩
  ·intro y0 y1
   unfold postriderref04_Number.j0
   repeat' first
   | (with_reducible exact ih0 _ _)
   | (with_reducible exact ih1 _ _)
   | (with_reducible exact ih2 _ _)
   | (with_reducible exact ih3 _ _ _)
   | (with_reducible exact LeO.refl _)
   | (with_reducible exact LeO.none _)
   | (with_reducible refine LeO.ite ?_ ?_)
   | (with_reducible refine LeO.bind ?_ (fun _ => ?_))
   | exact ih0 _ _
   | exact ih1 _ _
   | exact ih2 _ _
   | exact ih3 _ _ _
   | exact LeO.none _
   | refine LeO.ite ?_ ?_
   | refine LeO.bind ?_ (fun _ => ?_)
  ·intro y0 y1
   unfold postriderref04_Number.j1
   repeat' first
   | (with_reducible exact ih0 _ _)
   | (with_reducible exact ih1 _ _)
   | (with_reducible exact ih2 _ _)
   | (with_reducible exact ih3 _ _ _)
   | (with_reducible exact LeO.refl _)
   | (with_reducible exact LeO.none _)
   | (with_reducible refine LeO.ite ?_ ?_)
   | (with_reducible refine LeO.bind ?_ (fun _ => ?_))
   | exact ih0 _ _
   | exact ih1 _ _
   | exact ih2 _ _
   | exact ih3 _ _ _
   | exact LeO.none _
   | refine LeO.ite ?_ ?_
   | refine LeO.bind ?_ (fun _ => ?_)
  ·intro y0 y1
   unfold postriderref04_Number.j2
   repeat' first
   | (with_reducible exact ih0 _ _)
   | (with_reducible exact ih1 _ _)
   | (with_reducible exact ih2 _ _)
   | (with_reducible exact ih3 _ _ _)
   | (with_reducible exact LeO.refl _)
   | (with_reducible exact LeO.none _)
   | (with_reducible refine LeO.ite ?_ ?_)
   | (with_reducible refine LeO.bind ?_ (fun _ => ?_))
   | exact ih0 _ _
   | exact ih1 _ _
   | exact ih2 _ _
   | exact ih3 _ _ _
   | exact LeO.none _
   | refine LeO.ite ?_ ?_
   | refine LeO.bind ?_ (fun _ => ?_)
  ·intro y0 y1 y2
   unfold postriderref04_Number.l0
   repeat' first
   | (with_reducible exact ih0 _ _)
   | (with_reducible exact ih1 _ _)
   | (with_reducible exact ih2 _ _)
   | (with_reducible exact ih3 _ _ _)
   | (with_reducible exact LeO.refl _)
   | (with_reducible exact LeO.none _)
   | (with_reducible refine LeO.ite ?_ ?_)
   | (with_reducible refine LeO.bind ?_ (fun _ => ?_))
   | exact ih0 _ _
   | exact ih1 _ _
   | exact ih2 _ _
   | exact ih3 _ _ _
   | exact LeO.none _
   | refine LeO.ite ?_ ?_
   | refine LeO.bind ?_ (fun _ => ?_)
theorem postriderref04_Number.mono : ∀ a0 a1 k, LeO (postriderref04_Number.f k a0 a1) (postriderref04_Number.f (k + 1) a0 a1) := by
 intro a0 a1 k
 obtain ⟨ih0, ih1, ih2, ih3⟩ := postriderref04_Number.mono_l k
 unfold postriderref04_Number.f
 repeat' first
   | (with_reducible exact ih0 _ _)
   | (with_reducible exact ih1 _ _)
   | (with_reducible exact ih2 _ _)
   | (with_reducible exact ih3 _ _ _)
   | (with_reducible exact LeO.refl _)
   | (with_reducible exact LeO.none _)
   | (with_reducible refine LeO.ite ?_ ?_)
   | (with_reducible refine LeO.bind ?_ (fun _ => ?_))
   | exact ih0 _ _
   | exact ih1 _ _
   | exact ih2 _ _
   | exact ih3 _ _ _
   | exact LeO.none _
   | refine LeO.ite ?_ ?_
   | refine LeO.bind ?_ (fun _ => ?_)
set_option maxHeartbeats 8000000 in
set_option maxRecDepth 100000 in
theorem postriderref04_Number.calls (k : Nat) (a0 : ByteArray) (a1 : Int) (r1 : Int) (r2 : Int) (w : World) (h : postriderref04_Number.f k a0 a1 = some (r1, r2)) :
  Calls Tryz.prog 161 #[.string a0, .int .i64 a1] w fun e w' => e = .returned (.tuple #[.int .i64 r1, .int .i64 r2]) ∧ Drawn0 w w' := by
 have H : (if a1 < 1 then (postriderref04_Number.j0 k a0 1) else (postriderref04_Number.j0 k a0 a1)) = some (r1, r2) := h
 clear h
 have HC3 := Aside0.mk H
 clear H
 go_enter Tryz.func161, Tryz.ntmps161
 go_upto_if 9 with (fail)
 go_cut [1] (fun v1 wc => ∃ (kq : Nat) (x1_2 : Int), v1 = .int .i64 x1_2 ∧ Aside0 (postriderref04_Number.j0 kq a0 x1_2 = some (r1, r2)) ∧ Aside0 (kq ≤ k) ∧ Drawn0 w wc)
 case first =>
  have H := HC3.out
  clear HC3
  by_cases c4 : a1 < 1
  ·rw [if_pos c4] at H
   have c4b0 : decide (a1 < 1) = true := decide_eq_true c4
   clear c4
   (first | rw [c4b0] | (simp only [i64_w, i32_w]; rw [c4b0]) | skip)
   have H' := Aside0.mk H
   clear H
   go_wp2
   go_meet
   case rel => exact ⟨_, (1), (by first | rfl | (simp; done) | (simp [*]; done)), H', ⟨by first | omega | exact Nat.le_refl _⟩, by repeat (first | exact Drawn0.refl _ | apply Drawn0.step)⟩
  ·rw [if_neg c4] at H
   have c4b0 : decide (a1 < 1) = false := decide_eq_false c4
   clear c4
   (first | rw [c4b0] | (simp only [i64_w, i32_w]; rw [c4b0]) | skip)
   have H' := Aside0.mk H
   clear H
   go_wp2
   go_meet
   case rel => exact ⟨_, (a1), (by first | rfl | (simp; done) | (simp [*]; done)), H', ⟨by first | omega | exact Nat.le_refl _⟩, by repeat (first | exact Drawn0.refl _ | apply Drawn0.step)⟩
 case rest =>
  clear HC3
  try clear c1
  try clear p2
  try clear c4
  try clear c4b0
  obtain ⟨kq, x1_2, rfl, HA, HJ2, ⟨mc2, rfl⟩⟩ := hcut
  cases kq with
  | zero => exact absurd HA.out (by simp [postriderref04_Number.j0])
  | succ kj2 =>
   have H := HA.out
   clear HA
   simp only [postriderref04_Number.j0] at H
   have HC5 := Aside0.mk H
   clear H
   go_upto_if 11 with (fail)
   go_cut [1] (fun v1 wc => ∃ (kq : Nat) (x1_4 : Int), v1 = .int .i64 x1_4 ∧ Aside0 (postriderref04_Number.j1 kq a0 x1_4 = some (r1, r2)) ∧ Aside0 (kq ≤ kj2) ∧ Drawn0 w wc)
   case first =>
    have H := HC5.out
    clear HC5
    by_cases c6 : x1_2 > 15
    ·rw [if_pos c6] at H
     have c6b0 : decide (15 < x1_2) = true := decide_eq_true c6
     clear c6
     (first | rw [c6b0] | (simp only [i64_w, i32_w]; rw [c6b0]) | skip)
     have H' := Aside0.mk H
     clear H
     go_wp2
     go_meet
     case rel => exact ⟨_, (15), (by first | rfl | (simp; done) | (simp [*]; done)), H', ⟨by have := HJ2.out; first | omega | exact Nat.le_refl _⟩, by repeat (first | exact Drawn0.refl _ | apply Drawn0.step)⟩
    ·rw [if_neg c6] at H
     have c6b0 : decide (15 < x1_2) = false := decide_eq_false c6
     clear c6
     (first | rw [c6b0] | (simp only [i64_w, i32_w]; rw [c6b0]) | skip)
     have H' := Aside0.mk H
     clear H
     go_wp2
     go_meet
     case rel => exact ⟨_, (x1_2), (by first | rfl | (simp; done) | (simp [*]; done)), H', ⟨by have := HJ2.out; first | omega | exact Nat.le_refl _⟩, by repeat (first | exact Drawn0.refl _ | apply Drawn0.step)⟩
   case rest =>
    clear HC5
    try clear c1
    try clear c2
    try clear p2
    try clear c4
    try clear c4b0
    try clear c6
    try clear c6b0
    try clear p2
    obtain ⟨kq, x1_4, rfl, HA, HJ4, ⟨mc4, rfl⟩⟩ := hcut
    cases kq with
    | zero => exact absurd HA.out (by simp [postriderref04_Number.j1])
    | succ kj4 =>
     have H := HA.out
     clear HA
     simp only [postriderref04_Number.j1] at H
     have HC7 := Aside0.mk H
     clear H
     go_upto_region 5 with (fail)
     go_cut [20] (fun v20 wc => ∃ (kq : Nat) (x20_6 : Bool), v20 = .bool x20_6 ∧ Aside0 (postriderref04_Number.j2 kq a0 x20_6 = some (r1, r2)) ∧ Aside0 (kq ≤ kj4) ∧ Drawn0 w wc)
     case first =>
      have H := HC7.out
      clear HC7
      by_cases c8 : (a0.size : Int) < 1
      ·rw [if_pos c8] at H
       have c8b0 : decide ((a0.size : Int) < 1) = true := decide_eq_true c8
       have c8b1 : decide (a0.size < 1) = true := decide_eq_true (by omega)
       clear c8
       (first | rw [c8b0] | (simp only [i64_w, i32_w]; rw [c8b0]) | skip)
       have H' := Aside0.mk H
       clear H
       go_wp2
       go_meet
       case rel => exact ⟨_, (true), (by first | rfl | (simp; done) | (simp [*]; done)), H', ⟨by have := HJ2.out; have := HJ4.out; first | omega | exact Nat.le_refl _⟩, by repeat (first | exact Drawn0.refl _ | apply Drawn0.step)⟩
      ·rw [if_neg c8] at H
       have c8b0 : decide ((a0.size : Int) < 1) = false := decide_eq_false c8
       have c8b1 : decide (a0.size < 1) = false := decide_eq_false (by omega)
       clear c8
       (first | rw [c8b0] | (simp only [i64_w, i32_w]; rw [c8b0]) | skip)
       have H' := Aside0.mk H
       clear H
       go_wp2
       go_meet
       case rel => exact ⟨_, (decide ((a0.size : Int) > x1_4)), (by first | rfl | (simp; done) | (simp [*]; done)), H', ⟨by have := HJ2.out; have := HJ4.out; first | omega | exact Nat.le_refl _⟩, by repeat (first | exact Drawn0.refl _ | apply Drawn0.step)⟩
     case rest =>
      clear HC7
      try clear c1
      try clear c2
      try clear p2
      try clear c4
      try clear c4b0
      try clear c6
      try clear c6b0
      try clear c8
      try clear c8b0
      try clear c8b1
      try clear p2
      obtain ⟨kq, x20_6, rfl, HA, HJ6, ⟨mc6, rfl⟩⟩ := hcut
      cases kq with
      | zero => exact absurd HA.out (by simp [postriderref04_Number.j2])
      | succ kj6 =>
       have H := HA.out
       clear HA
       simp only [postriderref04_Number.j2] at H
       by_cases c9 : x20_6 = true
       ·subst c9
        have H1 : (some (0, 5)) = some (r1, r2) := by rw [if_pos rfl] at H; exact H
        clear H
        have H := H1
        clear H1
        simp only [Option.some.injEq, Prod.mk.injEq] at H
        obtain ⟨rfl, rfl⟩ := H
        go_wp2
        go_ret2
        exact ⟨by first | rfl | (simp [bneNil]; done) | (simp; done) | (simp [*]; done), by repeat (first | exact Drawn0.refl _ | apply Drawn0.step)⟩
       ·replace c9 := Bool.eq_false_iff.mpr c9
        subst c9
        have H1 : (postriderref04_Number.l0 kj6 a0 0 0) = some (r1, r2) := by rw [if_neg (show ¬ (false = true) by decide)] at H; exact H
        clear H
        have H := H1
        clear H1
        have H' := Aside0.mk H
        clear H
        go_wp2
        go_loopg [6, 7] kj6 (fun kq v6 v7 w' => ∃ (x6_4 : Int) (x7_4 : Int), v6 = .int .i64 x6_4 ∧ v7 = .int .i64 x7_4 ∧ Aside0 (postriderref04_Number.l0 kq a0 x6_4 x7_4 = some (r1, r2)) ∧ Aside0 (kq ≤ kj6) ∧ Drawn0 w w')
        case atStart => exact ⟨(0), (0), (by first | rfl | (simp; done) | (simp [*]; done)), (by first | rfl | (simp; done) | (simp [*]; done)), H', ⟨Nat.le_refl _⟩, by repeat (first | exact Drawn0.refl _ | apply Drawn0.step)⟩
        case round =>
         clear H'
         try clear c1
         try clear c2
         try clear p2
         try clear c4
         try clear c4b0
         try clear c6
         try clear c6b0
         try clear c8
         try clear c8b0
         try clear c8b1
         try clear c9
         try clear p2
         obtain ⟨x6_4, x7_4, rfl, rfl, HA, HK4, ⟨m4, rfl⟩⟩ := hrel
         cases gk with
         | zero => exact absurd HA.out (by simp [postriderref04_Number.l0])
         | succ k4 =>
          have H := HA.out
          clear HA
          simp only [postriderref04_Number.l0] at H
          by_cases c10 : x7_4 < (a0.size : Int)
          ·rw [if_pos c10] at H
           have c10b0 : decide (x7_4 < (a0.size : Int)) = true := decide_eq_true c10
           clear c10
           by_cases c11 : 0 ≤ x7_4
           ·rw [if_pos c11] at H
            have c11b0 : decide (0 ≤ x7_4) = true := decide_eq_true c11
            clear c11
            by_cases c13 : (bt a0 x7_4) < 48
            ·rw [if_pos c13] at H
             have c13b0 : decide ((bt a0 x7_4) < 48) = true := decide_eq_true c13
             clear c13
             simp only [Option.some.injEq, Prod.mk.injEq] at H
             obtain ⟨rfl, rfl⟩ := H
             have p12 : 0 ≤ (x7_4 : Int) := od
             have q12 : x7_4 < (a0.size : Int) := od
             have hx12 := bt_at a0 x7_4
             replace p12 := eq_true p12
             replace q12 := eq_true q12
             go_wp2
             go_ret2
             exact ⟨by first | rfl | (simp [bneNil]; done) | (simp; done) | (simp [*]; done), by repeat (first | exact Drawn0.refl _ | apply Drawn0.step)⟩
            ·rw [if_neg c13] at H
             have c13b0 : decide ((bt a0 x7_4) < 48) = false := decide_eq_false c13
             clear c13
             by_cases c15 : (bt a0 x7_4) > 57
             ·rw [if_pos c15] at H
              have c15b0 : decide (57 < (bt a0 x7_4)) = true := decide_eq_true c15
              clear c15
              simp only [Option.some.injEq, Prod.mk.injEq] at H
              obtain ⟨rfl, rfl⟩ := H
              have p12 : 0 ≤ (x7_4 : Int) := od
              have q12 : x7_4 < (a0.size : Int) := od
              have hx12 := bt_at a0 x7_4
              replace p12 := eq_true p12
              replace q12 := eq_true q12
              have p14 : 0 ≤ (x7_4 : Int) := od
              have q14 : x7_4 < (a0.size : Int) := od
              have hx14 := bt_at a0 x7_4
              replace p14 := eq_true p14
              replace q14 := eq_true q14
              go_wp2
              go_ret2
              exact ⟨by first | rfl | (simp [bneNil]; done) | (simp; done) | (simp [*]; done), by repeat (first | exact Drawn0.refl _ | apply Drawn0.step)⟩
             ·rw [if_neg c15] at H
              have c15b0 : decide (57 < (bt a0 x7_4)) = false := decide_eq_false c15
              clear c15
              have H' := Aside0.mk H
              clear H
              have p12 : 0 ≤ (x7_4 : Int) := od
              have q12 : x7_4 < (a0.size : Int) := od
              have hx12 := bt_at a0 x7_4
              replace p12 := eq_true p12
              replace q12 := eq_true q12
              have p14 : 0 ≤ (x7_4 : Int) := od
              have q14 : x7_4 < (a0.size : Int) := od
              have hx14 := bt_at a0 x7_4
              replace p14 := eq_true p14
              replace q14 := eq_true q14
              have p16 : 0 ≤ (x7_4 : Int) := od
              have q16 : x7_4 < (a0.size : Int) := od
              have hx16 := bt_at a0 x7_4
              replace p16 := eq_true p16
              replace q16 := eq_true q16
              go_wp2
              go_roundg k4
              case measure => have := HJ2.out; have := HJ4.out; have := HJ6.out; have := HK4.out; omega
              case rel => exact ⟨(wrap64 ((wrap64 (10 * x6_4)) + (((bt a0 x7_4) - 48) % 256))), (wrap64 (x7_4 + 1)), (by first | rfl | (simp; done) | (simp [*]; done)), (by first | rfl | (simp; done) | (simp [*]; done)), H', ⟨by have := HJ2.out; have := HJ4.out; have := HJ6.out; have := HK4.out; omega⟩, by repeat (first | exact Drawn0.refl _ | apply Drawn0.step)⟩
           ·rw [if_neg c11] at H
            exact absurd H (by simp)
          ·rw [if_neg c10] at H
           have c10b0 : decide (x7_4 < (a0.size : Int)) = false := decide_eq_false c10
           clear c10
           simp only [Option.some.injEq, Prod.mk.injEq] at H
           obtain ⟨rfl, rfl⟩ := H
           go_wp2
           go_ret2
           exact ⟨by first | rfl | (simp [bneNil]; done) | (simp; done) | (simp [*]; done), by repeat (first | exact Drawn0.refl _ | apply Drawn0.step)⟩

/-! ### postriderref05_literal: function 109 -/
mutual
def postriderref05_literal.j0 : Nat → ByteArray → Bool → Option (Bool)
 | 0, _, _ => none
 | k + 1, x0, x22 => if x22 = true then (some false) else (if 1 ≤ (wrap64 ((x0.size : Int) - 1)) then (if (wrap64 ((x0.size : Int) - 1)) ≤ (x0.size : Int) then ((postriderref04_Split.f k (x0.extract 1 ((wrap64 ((x0.size : Int) - 1)) : Int).toNat) 46).bind fun t246 => (if (t246.length : Int) = 4 then (postriderref05_literal.l0 k t246 0) else (some false))) else (none)) else (none))
def postriderref05_literal.l0 : Nat → List ByteArray → Int → Option (Bool)
 | 0, _, _ => none
 | k + 1, x3, x4 => if x4 < 4 then (if 0 ≤ x4 then (if x4 < (x3.length : Int) then ((postriderref04_Number.f k (rdOf ByteArray.empty x3 x4) 3).bind fun bt250 => (if bt250.2 = 0 then (if bt250.1 > 255 then (some false) else (if ((rdOf ByteArray.empty x3 x4).size : Int) > 1 then (if 0 < ((rdOf ByteArray.empty x3 x4).size : Int) then (if (bt (rdOf ByteArray.empty x3 x4) 0) = 48 then (some false) else (postriderref05_literal.l0 k x3 (wrap64 (x4 + 1)))) else (none)) else (postriderref05_literal.l0 k x3 (wrap64 (x4 + 1))))) else (some false))) else (none)) else (none)) else (some true)
end
def postriderref05_literal.f (k : Nat) (a0 : ByteArray) : Option (Bool) := if (a0.size : Int) < 2 then (postriderref05_literal.j0 k a0 true) else (if 0 < (a0.size : Int) then (if (bt a0 0) = 91 then (if 0 ≤ (wrap64 ((a0.size : Int) - 1)) then (if (wrap64 ((a0.size : Int) - 1)) < (a0.size : Int) then (postriderref05_literal.j0 k a0 ((bt a0 (wrap64 ((a0.size : Int) - 1))) != 93)) else (none)) else (none)) else (postriderref05_literal.j0 k a0 true)) else (none))
theorem postriderref05_literal.mono_l : ∀ k, (∀ y0 y1, LeO (postriderref05_literal.j0 k y0 y1) (postriderref05_literal.j0 (k + 1) y0 y1)) ∧ (∀ y0 y1, LeO (postriderref05_literal.l0 k y0 y1) (postriderref05_literal.l0 (k + 1) y0 y1))
 | 0 => ⟨fun _ _ r h => by simp [postriderref05_literal.j0] at h, fun _ _ r h => by simp [postriderref05_literal.l0] at h⟩
 | k + 1 => by
  obtain ⟨ih0, ih1⟩ := postriderref05_literal.mono_l k
  refine ⟨?_, ?_⟩
  ·intro y0 y1
   unfold postriderref05_literal.j0
   repeat' first
   | (with_reducible exact ih0 _ _)
   | (with_reducible exact ih1 _ _)
   | (with_reducible exact postriderref04_Number.mono _ _ _)
   | (with_reducible exact postriderref04_Split.mono _ _ _)
   | (with_reducible exact LeO.refl _)
   | (with_reducible exact LeO.none _)
   | (with_reducible refine LeO.ite ?_ ?_)
   | (with_reducible refine LeO.bind ?_ (fun _ => ?_))
   | exact ih0 _ _
   | exact ih1 _ _
   | exact postriderref04_Number.mono _ _ _
   | exact postriderref04_Split.mono _ _ _
   | exact LeO.none _
   | refine LeO.ite ?_ ?_
   | refine LeO.bind ?_ (fun _ => ?_)
  ·intro y0 y1
   unfold postriderref05_literal.l0
   repeat' first
   | (with_reducible exact ih0 _ _)
   | (with_reducible exact ih1 _ _)
   | (with_reducible exact postriderref04_Number.mono _ _ _)
   | (with_reducible exact postriderref04_Split.mono _ _ _)
   | (with_reducible exact LeO.refl _)
   | (with_reducible exact LeO.none _)
   | (with_reducible refine LeO.ite ?_ ?_)
   | (with_reducible refine LeO.bind ?_ (fun _ => ?_))
   | exact ih0 _ _
   | exact ih1 _ _
   | exact postriderref04_Number.mono _ _ _
   | exact postriderref04_Split.mono _ _ _
   | exact LeO.none _
   | refine LeO.ite ?_ ?_
   | refine LeO.bind ?_ (fun _ => ?_)
theorem postriderref05_literal.mono : ∀ a0 k, LeO (postriderref05_literal.f k a0) (postriderref05_literal.f (k + 1) a0) := by
 intro a0 k
 obtain ⟨ih0, ih1⟩ := postriderref05_literal.mono_l k
 unfold postriderref05_literal.f
 repeat' first
   | (with_reducible exact ih0 _ _)
   | (with_reducible exact ih1 _ _)
   | (with_reducible exact postriderref04_Number.mono _ _ _)
   | (with_reducible exact postriderref04_Split.mono _ _ _)
   | (with_reducible exact LeO.refl _)
   | (with_reducible exact LeO.none _)
   | (with_reducible refine LeO.ite ?_ ?_)
   | (with_reducible refine LeO.bind ?_ (fun _ => ?_))
   | exact ih0 _ _
   | exact ih1 _ _
   | exact postriderref04_Number.mono _ _ _
   | exact postriderref04_Split.mono _ _ _
   | exact LeO.none _
   | refine LeO.ite ?_ ?_
   | refine LeO.bind ?_ (fun _ => ?_)
set_option maxHeartbeats 8000000 in
set_option maxRecDepth 100000 in
theorem postriderref05_literal.calls (k : Nat) (a0 : ByteArray) (r : Bool) (w : World) (h : postriderref05_literal.f k a0 = some r) :
  Calls Tryz.prog 109 #[.string a0] w fun e w' => e = .returned (.bool r) ∧ Below w.heap.size w w' := by
 have HB := Aside0.mk (Below.refl w.heap.size w)
 have H : (if (a0.size : Int) < 2 then (postriderref05_literal.j0 k a0 true) else (if 0 < (a0.size : Int) then (if (bt a0 0) = 91 then (if 0 ≤ (wrap64 ((a0.size : Int) - 1)) then (if (wrap64 ((a0.size : Int) - 1)) < (a0.size : Int) then (postriderref05_literal.j0 k a0 ((bt a0 (wrap64 ((a0.size : Int) - 1))) != 93)) else (none)) else (none)) else (postriderref05_literal.j0 k a0 true)) else (none))) = some r := h
 clear h
 have HC2 := Aside0.mk H
 clear H
 go_enter Tryz.func109, Tryz.ntmps109
 go_upto_region 1 with (fail)
 go_cut [22] (fun v22 wc => ∃ (kq : Nat) (x22_1 : Bool), v22 = .bool x22_1 ∧ Aside0 (postriderref05_literal.j0 kq a0 x22_1 = some r) ∧ Aside0 (kq ≤ k) ∧ Aside0 (Below w.heap.size w wc))
 case first =>
  have H := HC2.out
  clear HC2
  by_cases c3 : (a0.size : Int) < 2
  ·rw [if_pos c3] at H
   have c3b0 : decide ((a0.size : Int) < 2) = true := decide_eq_true c3
   have c3b1 : decide (a0.size < 2) = true := decide_eq_true (by omega)
   clear c3
   (first | rw [c3b0] | (simp only [i64_w, i32_w]; rw [c3b0]) | skip)
   have H' := Aside0.mk H
   clear H
   go_wp2
   go_meet
   case rel => exact ⟨_, (true), (by first | rfl | (simp; done) | (simp [*]; done)), H', ⟨by first | omega | exact Nat.le_refl _⟩, ⟨by repeat (first | (with_reducible first | exact HB.out | apply below_alloc | apply pw_below_drewN | apply below_drew1) | exact HB.out)⟩⟩
  ·rw [if_neg c3] at H
   have c3b0 : decide ((a0.size : Int) < 2) = false := decide_eq_false c3
   have c3b1 : decide (a0.size < 2) = false := decide_eq_false (by omega)
   clear c3
   (first | rw [c3b0] | (simp only [i64_w, i32_w]; rw [c3b0]) | skip)
   by_cases c4 : 0 < (a0.size : Int)
   ·rw [if_pos c4] at H
    have c4b0 : decide (0 < (a0.size : Int)) = true := decide_eq_true c4
    have c4b1 : decide (0 < a0.size) = true := decide_eq_true (by omega)
    clear c4
    by_cases c6 : (bt a0 0) = 91
    ·rw [if_pos c6] at H
     have c6b0 : ((bt a0 0) == 91) = true := beq_iff_eq.mpr c6
     have c6b1 : ((bt a0 0) != 91) = false := bne_eq_false_iff_eq.mpr c6
     clear c6
     obtain ⟨ji7, hji7⟩ : ∃ j_ : Int, (wrap64 ((a0.size : Int) - 1)) = j_ := ⟨_, rfl⟩
     replace H : (if 0 ≤ (ji7) then (if (ji7) < (a0.size : Int) then (postriderref05_literal.j0 k a0 ((bt a0 (ji7)) != 93)) else (none)) else (none)) = some r := by first | (rw [hji7] at H; exact H) | (simp only [hji7] at H ⊢; exact H)
     have hji7w : (IntKind.i64.wrap ((a0.size : Int) - 1)) = ji7 := (i64_w _).trans hji7
     by_cases c8 : 0 ≤ (ji7)
     ·rw [if_pos c8] at H
      have c8b0 : decide (0 ≤ (ji7)) = true := decide_eq_true c8
      clear c8
      by_cases c9 : (ji7) < (a0.size : Int)
      ·rw [if_pos c9] at H
       have c9b0 : decide ((ji7) < (a0.size : Int)) = true := decide_eq_true c9
       clear c9
       have H' := Aside0.mk H
       clear H
       have p5 : 0 ≤ (0 : Int) := (by omega)
       have q5 : 0 < a0.size := (by have : (0 : Int) < (a0.size : Int) := od; omega)
       have hx5 : ∀ h : 0 < a0.size, ((a0[0]'h).toNat : Int) = bt a0 0 := bt_at a0 0
       clear p5
       have qi5 : (0 < (a0.size : Int)) = True := eq_true (od)
       replace q5 := eq_true q5
       have p10 : 0 ≤ ((ji7) : Int) := od
       have q10 : (ji7) < (a0.size : Int) := od
       have hx10 := bt_at a0 (ji7)
       replace p10 := eq_true p10
       replace q10 := eq_true q10
       go_wp2
       go_meet
       case rel => exact ⟨_, (((bt a0 (ji7)) != 93)), (by first | rfl | (simp; done) | (simp only [← hji7] <;> (first | rfl | simp)) | (simp [*]; done)), H', ⟨by first | omega | exact Nat.le_refl _⟩, ⟨by repeat (first | (with_reducible first | exact HB.out | apply below_alloc | apply pw_below_drewN | apply below_drew1) | exact HB.out)⟩⟩
      ·rw [if_neg c9] at H
       exact absurd H (by simp)
     ·rw [if_neg c8] at H
      exact absurd H (by simp)
    ·rw [if_neg c6] at H
     have c6b0 : ((bt a0 0) == 91) = false := beq_eq_false_iff_ne.mpr c6
     have c6b1 : ((bt a0 0) != 91) = true := bne_iff_ne.mpr c6
     have H' := Aside0.mk H
     clear H
     have p5 : 0 ≤ (0 : Int) := (by omega)
     have q5 : 0 < a0.size := (by have : (0 : Int) < (a0.size : Int) := od; omega)
     have hx5 : ∀ h : 0 < a0.size, ((a0[0]'h).toNat : Int) = bt a0 0 := bt_at a0 0
     clear p5
     have qi5 : (0 < (a0.size : Int)) = True := eq_true (od)
     replace q5 := eq_true q5
     go_wp2
     go_meet
     case rel => exact ⟨_, (true), (by first | rfl | (simp; done) | (simp [*]; done)), H', ⟨by first | omega | exact Nat.le_refl _⟩, ⟨by repeat (first | (with_reducible first | exact HB.out | apply below_alloc | apply pw_below_drewN | apply below_drew1) | exact HB.out)⟩⟩
   ·rw [if_neg c4] at H
    exact absurd H (by simp)
 case rest =>
  clear HC2
  try clear c1
  try clear p1
  try clear q1
  try clear hx1
  try clear p2
  try clear c3
  try clear c3b0
  try clear c3b1
  try clear c4
  try clear c4b0
  try clear c4b1
  try clear p5
  try clear q5
  try clear hx5
  try clear qi5
  try clear c6
  try clear c6b0
  try clear c6b1
  try clear p6
  try clear c8
  try clear c8b0
  try clear c9
  try clear c9b0
  try clear c10
  try clear p10
  try clear q10
  try clear hx10
  try clear p10
  try clear p5
  try clear q10
  try clear q5
  obtain ⟨kq, x22_1, rfl, HA, HJ1, HB⟩ := hcut
  cases kq with
  | zero => exact absurd HA.out (by simp [postriderref05_literal.j0])
  | succ kj1 =>
   have H := HA.out
   clear HA
   simp only [postriderref05_literal.j0] at H
   by_cases c11 : x22_1 = true
   ·subst c11
    have H1 : (some false) = some r := by rw [if_pos rfl] at H; exact H
    clear H
    have H := H1
    clear H1
    obtain rfl := Option.some.inj H
    go_wp2
    go_ret
    exact ⟨by first | rfl | (simp [bneNil]; done) | (simp [errW_none, errW_some] <;> rfl) | (simp [*, errW_none, errW_some] <;> rfl), by repeat (first | (with_reducible first | exact HB.out | apply below_alloc | apply pw_below_drewN | apply below_drew1) | exact HB.out)⟩
   ·replace c11 := Bool.eq_false_iff.mpr c11
    subst c11
    have H1 : (if 1 ≤ (wrap64 ((a0.size : Int) - 1)) then (if (wrap64 ((a0.size : Int) - 1)) ≤ (a0.size : Int) then ((postriderref04_Split.f kj1 (a0.extract 1 ((wrap64 ((a0.size : Int) - 1)) : Int).toNat) 46).bind fun t246 => (if (t246.length : Int) = 4 then (postriderref05_literal.l0 kj1 t246 0) else (some false))) else (none)) else (none)) = some r := by rw [if_neg (show ¬ (false = true) by decide)] at H; exact H
    clear H
    have H := H1
    clear H1
    by_cases c12 : 1 ≤ (wrap64 ((a0.size : Int) - 1))
    ·rw [if_pos c12] at H
     have c12b0 := eq_true c12
     have c12b1 : decide (1 ≤ (wrap64 ((a0.size : Int) - 1))) = true := decide_eq_true c12
     clear c12
     by_cases c13 : (wrap64 ((a0.size : Int) - 1)) ≤ (a0.size : Int)
     ·rw [if_pos c13] at H
      have c13b0 := eq_true c13
      have c13b1 : decide ((wrap64 ((a0.size : Int) - 1)) ≤ (a0.size : Int)) = true := decide_eq_true c13
      clear c13
      replace H := Option.bind_eq_some_iff.mp H
      obtain ⟨t246, A140, H⟩ := H
      replace H : (if (t246.length : Int) = 4 then (postriderref05_literal.l0 kj1 t246 0) else (some false)) = some r := H
      have A14 := Aside0.mk A140
      clear A140
      by_cases c15 : (t246.length : Int) = 4
      ·rw [if_pos c15] at H
       have c15b0 : ((t246.length : Int) == 4) = true := beq_iff_eq.mpr c15
       have c15b1 : ((t246.length : Int) != 4) = false := bne_eq_false_iff_eq.mpr c15
       clear c15
       have H' := Aside0.mk H
       clear H
       go_wp2_with (first | ((with_reducible refine gate_callee (f := 160) rfl ?_); refine goesL_ (some 28) rfl rfl Tryz.func160 (by kernel_rfl) rfl #[.string (a0.extract 1 ((wrap64 ((a0.size : Int) - 1)) : Int).toNat), .int .u8 46] rfl ml ?_; (with_reducible refine (postriderref04_Split.calls kj1 (a0.extract 1 ((wrap64 ((a0.size : Int) - 1)) : Int).toNat) 46 t246 _ A14.out).mono ?_); rintro e w16 ⟨v247, rfl, ho0, hb⟩; refine ⟨_, rfl, ?_⟩; have n0_ := Aside0.mk (Kd.R_lower ho0 (below_size bl)); have n1_ := Aside0.mk (below_step bl hb); clear HB; have HO248 := n0_; have HB := n1_; clear n0_ n1_; (try clear hb); (try clear hb2); (try clear hk); (try clear hi); (try clear ho0); obtain ⟨Ao17, co17, eo17⟩ := Kd.R_slice HO248.out; subst eo17))
       go_loopg [4] kj1 (fun kq v4 w' => ∃ (x4_2 : Int), v4 = .int .i64 x4_2 ∧ Aside0 (postriderref05_literal.l0 kq t246 x4_2 = some r) ∧ Aside0 (kq ≤ kj1) ∧ Aside0 (Kd.R Kd.string 9 w' w.heap.size (fun _ => True) (.slice Ao17 t246.length co17) t246) ∧ Aside0 (Below w.heap.size w w'))
       case atStart => exact ⟨(0), (by first | rfl | (simp; done) | (simp [*]; done)), H', ⟨Nat.le_refl _⟩, ⟨by (with_reducible repeat (first | apply Kd.R_alloc | apply Kd.R_drewN | apply Kd.R_drew)); exact HO248.out⟩, ⟨by repeat (first | (with_reducible first | exact HB.out | apply below_alloc | apply pw_below_drewN | apply below_drew1) | exact HB.out)⟩⟩
       case round =>
        clear H'
        try clear c1
        try clear p1
        try clear q1
        try clear hx1
        try clear p2
        try clear c3
        try clear c3b0
        try clear c3b1
        try clear c4
        try clear c4b0
        try clear c4b1
        try clear p5
        try clear q5
        try clear hx5
        try clear qi5
        try clear c6
        try clear c6b0
        try clear c6b1
        try clear p6
        try clear c8
        try clear c8b0
        try clear c9
        try clear c9b0
        try clear c10
        try clear p10
        try clear q10
        try clear hx10
        try clear c11
        try clear c12
        try clear c12b0
        try clear c12b1
        try clear c13
        try clear c13b0
        try clear c13b1
        try clear c15
        try clear c15b0
        try clear c15b1
        try clear c16
        try clear p1
        try clear p10
        try clear p2
        try clear p5
        try clear p6
        try clear q1
        try clear q10
        try clear q5
        obtain ⟨x4_2, rfl, HA, HK2, HO_3, HB⟩ := hrel
        cases gk with
        | zero => exact absurd HA.out (by simp [postriderref05_literal.l0])
        | succ k2 =>
         have H := HA.out
         clear HA
         simp only [postriderref05_literal.l0] at H
         by_cases c18 : x4_2 < 4
         ·rw [if_pos c18] at H
          have c18b0 : decide (x4_2 < 4) = true := decide_eq_true c18
          clear c18
          by_cases c19 : 0 ≤ x4_2
          ·rw [if_pos c19] at H
           have c19b0 : decide (0 ≤ x4_2) = true := decide_eq_true c19
           clear c19
           by_cases c20 : x4_2 < (t246.length : Int)
           ·rw [if_pos c20] at H
            have c20b0 : decide (x4_2 < (t246.length : Int)) = true := decide_eq_true c20
            clear c20
            replace H := Option.bind_eq_some_iff.mp H
            obtain ⟨⟨t250, t251⟩, A210, H⟩ := H
            replace H : (if t251 = 0 then (if t250 > 255 then (some false) else (if ((rdOf ByteArray.empty t246 x4_2).size : Int) > 1 then (if 0 < ((rdOf ByteArray.empty t246 x4_2).size : Int) then (if (bt (rdOf ByteArray.empty t246 x4_2) 0) = 48 then (some false) else (postriderref05_literal.l0 k2 t246 (wrap64 (x4_2 + 1)))) else (none)) else (postriderref05_literal.l0 k2 t246 (wrap64 (x4_2 + 1))))) else (some false)) = some r := H
            have A21 := Aside0.mk A210
            clear A210
            by_cases c22 : t251 = 0
            ·rw [if_pos c22] at H
             have c22b0 : (t251 == 0) = true := beq_iff_eq.mpr c22
             have c22b1 : (t251 != 0) = false := bne_eq_false_iff_eq.mpr c22
             clear c22
             by_cases c23 : t250 > 255
             ·rw [if_pos c23] at H
              have c23b0 : decide (255 < t250) = true := decide_eq_true c23
              clear c23
              obtain rfl := Option.some.inj H
              have p249 : 0 ≤ (x4_2 : Int) := od
              have q249 : x4_2 < (t246.length : Int) := od
              obtain ⟨ad249, e249, hx249_0⟩ := Kd.at_string (Kd.R_reads' HO_3.out).2.2 x4_2 p249 q249
              cases e249
              replace p249 := eq_true p249
              replace q249 := eq_true q249
              go_wp2_with (first | ((with_reducible refine gate_callee (f := 161) rfl ?_); refine goesL_ (some 41) rfl rfl Tryz.func161 (by kernel_rfl) rfl #[.string (rdOf ByteArray.empty t246 x4_2), .int .i64 3] rfl ml ?_; (with_reducible refine (postriderref04_Number.calls k2 (rdOf ByteArray.empty t246 x4_2) 3 t250 t251 _ A21.out).mono ?_); rintro e w' ⟨rfl, ⟨nd, rfl⟩⟩; refine ⟨_, rfl, ?_⟩))
              go_ret
              exact ⟨by first | rfl | (simp [bneNil]; done) | (simp [errW_none, errW_some] <;> rfl) | (simp [*, errW_none, errW_some] <;> rfl), by repeat (first | (with_reducible first | exact HB.out | apply below_alloc | apply pw_below_drewN | apply below_drew1) | exact HB.out)⟩
             ·rw [if_neg c23] at H
              have c23b0 : decide (255 < t250) = false := decide_eq_false c23
              clear c23
              by_cases c24 : ((rdOf ByteArray.empty t246 x4_2).size : Int) > 1
              ·rw [if_pos c24] at H
               have c24b0 : decide (1 < ((rdOf ByteArray.empty t246 x4_2).size : Int)) = true := decide_eq_true c24
               have c24b1 : decide (1 < (rdOf ByteArray.empty t246 x4_2).size) = true := decide_eq_true (by omega)
               clear c24
               by_cases c25 : 0 < ((rdOf ByteArray.empty t246 x4_2).size : Int)
               ·rw [if_pos c25] at H
                have c25b0 : decide (0 < ((rdOf ByteArray.empty t246 x4_2).size : Int)) = true := decide_eq_true c25
                have c25b1 : decide (0 < (rdOf ByteArray.empty t246 x4_2).size) = true := decide_eq_true (by omega)
                clear c25
                by_cases c27 : (bt (rdOf ByteArray.empty t246 x4_2) 0) = 48
                ·rw [if_pos c27] at H
                 have c27b0 : ((bt (rdOf ByteArray.empty t246 x4_2) 0) == 48) = true := beq_iff_eq.mpr c27
                 have c27b1 : ((bt (rdOf ByteArray.empty t246 x4_2) 0) != 48) = false := bne_eq_false_iff_eq.mpr c27
                 clear c27
                 obtain rfl := Option.some.inj H
                 have p249 : 0 ≤ (x4_2 : Int) := od
                 have q249 : x4_2 < (t246.length : Int) := od
                 obtain ⟨ad249, e249, hx249_0⟩ := Kd.at_string (Kd.R_reads' HO_3.out).2.2 x4_2 p249 q249
                 cases e249
                 replace p249 := eq_true p249
                 replace q249 := eq_true q249
                 go_wp2_with (first | ((with_reducible refine gate_callee (f := 161) rfl ?_); refine goesL_ (some 41) rfl rfl Tryz.func161 (by kernel_rfl) rfl #[.string (rdOf ByteArray.empty t246 x4_2), .int .i64 3] rfl ml ?_; (with_reducible refine (postriderref04_Number.calls k2 (rdOf ByteArray.empty t246 x4_2) 3 t250 t251 _ A21.out).mono ?_); rintro e w' ⟨rfl, ⟨nd, rfl⟩⟩; refine ⟨_, rfl, ?_⟩; have p252 : 0 ≤ (x4_2 : Int) := od; have q252 : x4_2 < (t246.length : Int) := od; obtain ⟨ad252, e252, hx252_0⟩ := Kd.at_string (Kd.R_reads' HO_3.out).2.2 x4_2 p252 q252; obtain rfl : ad249 = ad252 := (by injection e252); replace p252 := eq_true p252; replace q252 := eq_true q252; have p253 : 0 ≤ (x4_2 : Int) := od; have q253 : x4_2 < (t246.length : Int) := od; obtain ⟨ad253, e253, hx253_0⟩ := Kd.at_string (Kd.R_reads' HO_3.out).2.2 x4_2 p253 q253; obtain rfl : ad249 = ad253 := (by injection e253); replace p253 := eq_true p253; replace q253 := eq_true q253; have p26 : 0 ≤ (0 : Int) := (by omega); have q26 : 0 < (rdOf ByteArray.empty t246 x4_2).size := (by have : (0 : Int) < ((rdOf ByteArray.empty t246 x4_2).size : Int) := od; omega); have hx26 : ∀ h : 0 < (rdOf ByteArray.empty t246 x4_2).size, (((rdOf ByteArray.empty t246 x4_2)[0]'h).toNat : Int) = bt (rdOf ByteArray.empty t246 x4_2) 0 := bt_at (rdOf ByteArray.empty t246 x4_2) 0; clear p26; have qi26 : (0 < ((rdOf ByteArray.empty t246 x4_2).size : Int)) = True := eq_true (od); replace q26 := eq_true q26))
                 go_ret
                 exact ⟨by first | rfl | (simp [bneNil]; done) | (simp [errW_none, errW_some] <;> rfl) | (simp [*, errW_none, errW_some] <;> rfl), by repeat (first | (with_reducible first | exact HB.out | apply below_alloc | apply pw_below_drewN | apply below_drew1) | exact HB.out)⟩
                ·rw [if_neg c27] at H
                 have c27b0 : ((bt (rdOf ByteArray.empty t246 x4_2) 0) == 48) = false := beq_eq_false_iff_ne.mpr c27
                 have c27b1 : ((bt (rdOf ByteArray.empty t246 x4_2) 0) != 48) = true := bne_iff_ne.mpr c27
                 have H' := Aside0.mk H
                 clear H
                 have p249 : 0 ≤ (x4_2 : Int) := od
                 have q249 : x4_2 < (t246.length : Int) := od
                 obtain ⟨ad249, e249, hx249_0⟩ := Kd.at_string (Kd.R_reads' HO_3.out).2.2 x4_2 p249 q249
                 cases e249
                 replace p249 := eq_true p249
                 replace q249 := eq_true q249
                 go_wp2_with (first | ((with_reducible refine gate_callee (f := 161) rfl ?_); refine goesL_ (some 41) rfl rfl Tryz.func161 (by kernel_rfl) rfl #[.string (rdOf ByteArray.empty t246 x4_2), .int .i64 3] rfl ml ?_; (with_reducible refine (postriderref04_Number.calls k2 (rdOf ByteArray.empty t246 x4_2) 3 t250 t251 _ A21.out).mono ?_); rintro e w' ⟨rfl, ⟨nd, rfl⟩⟩; refine ⟨_, rfl, ?_⟩; have p252 : 0 ≤ (x4_2 : Int) := od; have q252 : x4_2 < (t246.length : Int) := od; obtain ⟨ad252, e252, hx252_0⟩ := Kd.at_string (Kd.R_reads' HO_3.out).2.2 x4_2 p252 q252; obtain rfl : ad249 = ad252 := (by injection e252); replace p252 := eq_true p252; replace q252 := eq_true q252; have p253 : 0 ≤ (x4_2 : Int) := od; have q253 : x4_2 < (t246.length : Int) := od; obtain ⟨ad253, e253, hx253_0⟩ := Kd.at_string (Kd.R_reads' HO_3.out).2.2 x4_2 p253 q253; obtain rfl : ad249 = ad253 := (by injection e253); replace p253 := eq_true p253; replace q253 := eq_true q253; have p26 : 0 ≤ (0 : Int) := (by omega); have q26 : 0 < (rdOf ByteArray.empty t246 x4_2).size := (by have : (0 : Int) < ((rdOf ByteArray.empty t246 x4_2).size : Int) := od; omega); have hx26 : ∀ h : 0 < (rdOf ByteArray.empty t246 x4_2).size, (((rdOf ByteArray.empty t246 x4_2)[0]'h).toNat : Int) = bt (rdOf ByteArray.empty t246 x4_2) 0 := bt_at (rdOf ByteArray.empty t246 x4_2) 0; clear p26; have qi26 : (0 < ((rdOf ByteArray.empty t246 x4_2).size : Int)) = True := eq_true (od); replace q26 := eq_true q26))
                 go_roundg k2
                 case measure => have := HJ1.out; have := HK2.out; omega
                 case rel => exact ⟨(wrap64 (x4_2 + 1)), (by first | rfl | (simp; done) | (simp [*]; done)), H', ⟨by have := HJ1.out; have := HK2.out; omega⟩, ⟨by (with_reducible repeat (first | apply Kd.R_alloc | apply Kd.R_drewN | apply Kd.R_drew)); exact HO_3.out⟩, ⟨by repeat (first | (with_reducible first | exact HB.out | apply below_alloc | apply pw_below_drewN | apply below_drew1) | exact HB.out)⟩⟩
               ·rw [if_neg c25] at H
                exact absurd H (by simp)
              ·rw [if_neg c24] at H
               have c24b0 : decide (1 < ((rdOf ByteArray.empty t246 x4_2).size : Int)) = false := decide_eq_false c24
               have c24b1 : decide (1 < (rdOf ByteArray.empty t246 x4_2).size) = false := decide_eq_false (by omega)
               clear c24
               have H' := Aside0.mk H
               clear H
               have p249 : 0 ≤ (x4_2 : Int) := od
               have q249 : x4_2 < (t246.length : Int) := od
               obtain ⟨ad249, e249, hx249_0⟩ := Kd.at_string (Kd.R_reads' HO_3.out).2.2 x4_2 p249 q249
               cases e249
               replace p249 := eq_true p249
               replace q249 := eq_true q249
               go_wp2_with (first | ((with_reducible refine gate_callee (f := 161) rfl ?_); refine goesL_ (some 41) rfl rfl Tryz.func161 (by kernel_rfl) rfl #[.string (rdOf ByteArray.empty t246 x4_2), .int .i64 3] rfl ml ?_; (with_reducible refine (postriderref04_Number.calls k2 (rdOf ByteArray.empty t246 x4_2) 3 t250 t251 _ A21.out).mono ?_); rintro e w' ⟨rfl, ⟨nd, rfl⟩⟩; refine ⟨_, rfl, ?_⟩; have p252 : 0 ≤ (x4_2 : Int) := od; have q252 : x4_2 < (t246.length : Int) := od; obtain ⟨ad252, e252, hx252_0⟩ := Kd.at_string (Kd.R_reads' HO_3.out).2.2 x4_2 p252 q252; obtain rfl : ad249 = ad252 := (by injection e252); replace p252 := eq_true p252; replace q252 := eq_true q252))
               go_roundg k2
               case measure => have := HJ1.out; have := HK2.out; omega
               case rel => exact ⟨(wrap64 (x4_2 + 1)), (by first | rfl | (simp; done) | (simp [*]; done)), H', ⟨by have := HJ1.out; have := HK2.out; omega⟩, ⟨by (with_reducible repeat (first | apply Kd.R_alloc | apply Kd.R_drewN | apply Kd.R_drew)); exact HO_3.out⟩, ⟨by repeat (first | (with_reducible first | exact HB.out | apply below_alloc | apply pw_below_drewN | apply below_drew1) | exact HB.out)⟩⟩
            ·rw [if_neg c22] at H
             have c22b0 : (t251 == 0) = false := beq_eq_false_iff_ne.mpr c22
             have c22b1 : (t251 != 0) = true := bne_iff_ne.mpr c22
             obtain rfl := Option.some.inj H
             have p249 : 0 ≤ (x4_2 : Int) := od
             have q249 : x4_2 < (t246.length : Int) := od
             obtain ⟨ad249, e249, hx249_0⟩ := Kd.at_string (Kd.R_reads' HO_3.out).2.2 x4_2 p249 q249
             cases e249
             replace p249 := eq_true p249
             replace q249 := eq_true q249
             go_wp2_with (first | ((with_reducible refine gate_callee (f := 161) rfl ?_); refine goesL_ (some 41) rfl rfl Tryz.func161 (by kernel_rfl) rfl #[.string (rdOf ByteArray.empty t246 x4_2), .int .i64 3] rfl ml ?_; (with_reducible refine (postriderref04_Number.calls k2 (rdOf ByteArray.empty t246 x4_2) 3 t250 t251 _ A21.out).mono ?_); rintro e w' ⟨rfl, ⟨nd, rfl⟩⟩; refine ⟨_, rfl, ?_⟩))
             go_ret
             exact ⟨by first | rfl | (simp [bneNil]; done) | (simp [errW_none, errW_some] <;> rfl) | (simp [*, errW_none, errW_some] <;> rfl), by repeat (first | (with_reducible first | exact HB.out | apply below_alloc | apply pw_below_drewN | apply below_drew1) | exact HB.out)⟩
           ·rw [if_neg c20] at H
            exact absurd H (by simp)
          ·rw [if_neg c19] at H
           exact absurd H (by simp)
         ·rw [if_neg c18] at H
          have c18b0 : decide (x4_2 < 4) = false := decide_eq_false c18
          clear c18
          obtain rfl := Option.some.inj H
          go_wp2
          go_ret
          exact ⟨by first | rfl | (simp [bneNil]; done) | (simp [errW_none, errW_some] <;> rfl) | (simp [*, errW_none, errW_some] <;> rfl), by repeat (first | (with_reducible first | exact HB.out | apply below_alloc | apply pw_below_drewN | apply below_drew1) | exact HB.out)⟩
      ·rw [if_neg c15] at H
       have c15b0 : ((t246.length : Int) == 4) = false := beq_eq_false_iff_ne.mpr c15
       have c15b1 : ((t246.length : Int) != 4) = true := bne_iff_ne.mpr c15
       obtain rfl := Option.some.inj H
       go_wp2_with (first | ((with_reducible refine gate_callee (f := 160) rfl ?_); refine goesL_ (some 28) rfl rfl Tryz.func160 (by kernel_rfl) rfl #[.string (a0.extract 1 ((wrap64 ((a0.size : Int) - 1)) : Int).toNat), .int .u8 46] rfl ml ?_; (with_reducible refine (postriderref04_Split.calls kj1 (a0.extract 1 ((wrap64 ((a0.size : Int) - 1)) : Int).toNat) 46 t246 _ A14.out).mono ?_); rintro e w28 ⟨v247, rfl, ho0, hb⟩; refine ⟨_, rfl, ?_⟩; have n0_ := Aside0.mk (Kd.R_lower ho0 (below_size bl)); have n1_ := Aside0.mk (below_step bl hb); clear HB; have HO248 := n0_; have HB := n1_; clear n0_ n1_; (try clear hb); (try clear hb2); (try clear hk); (try clear hi); (try clear ho0); obtain ⟨Ao29, co29, eo29⟩ := Kd.R_slice HO248.out; subst eo29))
       go_ret
       exact ⟨by first | rfl | (simp [bneNil]; done) | (simp [errW_none, errW_some] <;> rfl) | (simp [*, errW_none, errW_some] <;> rfl), by repeat (first | (with_reducible first | exact HB.out | apply below_alloc | apply pw_below_drewN | apply below_drew1) | exact HB.out)⟩
     ·rw [if_neg c13] at H
      exact absurd H (by simp)
    ·rw [if_neg c12] at H
     exact absurd H (by simp)

end Go.Proofs.YtacjnapgdikhbaaGreatDoor.Q
end
section
namespace Go.Proofs.YtacjnapgdikhbaaGreatDoor.Q
open Go.RowKit Go.Proofs.YtacjnapgdikhbaaGreatDoorW.PrintWords Go.Proofs.YtacjnapgdikhbaaGreatDoorW.PrintLast Go.Proofs.YtacjnapgdikhbaaGreatDoorW.PrintMore
attribute [local go_sem] max2_int min2_int max_two min_two max_three min_three max_four min_four   -- for this text's walks alone
set_option linter.unusedVariables false
set_option linter.unusedSimpArgs false

/-! ### postriderref05_letter: function 110 -/
def postriderref05_letter.f (a0 : Int) : Option (Bool) := if a0 ≥ 97 then (if a0 ≤ 122 then (some true) else (if a0 ≥ 65 then (if a0 ≤ 90 then (some true) else (if a0 ≥ 48 then (some (decide (a0 ≤ 57))) else (some false))) else (if a0 ≥ 48 then (some (decide (a0 ≤ 57))) else (some false)))) else (if a0 ≥ 65 then (if a0 ≤ 90 then (some true) else (if a0 ≥ 48 then (some (decide (a0 ≤ 57))) else (some false))) else (if a0 ≥ 48 then (some (decide (a0 ≤ 57))) else (some false)))
set_option maxHeartbeats 8000000 in
set_option maxRecDepth 100000 in
theorem postriderref05_letter.calls (a0 : Int) (r : Bool) (w : World) (h : postriderref05_letter.f a0 = some r) :
    Calls Tryz.prog 110 #[.int .u8 a0] w fun e w' => e = .returned (.bool r) ∧ Drawn0 w w' := by
  have H : (if a0 ≥ 97 then (if a0 ≤ 122 then (some true) else (if a0 ≥ 65 then (if a0 ≤ 90 then (some true) else (if a0 ≥ 48 then (some (decide (a0 ≤ 57))) else (some false))) else (if a0 ≥ 48 then (some (decide (a0 ≤ 57))) else (some false)))) else (if a0 ≥ 65 then (if a0 ≤ 90 then (some true) else (if a0 ≥ 48 then (some (decide (a0 ≤ 57))) else (some false))) else (if a0 ≥ 48 then (some (decide (a0 ≤ 57))) else (some false)))) = some r := h
  clear h
  by_cases c2 : a0 ≥ 97
  · rw [if_pos c2] at H
    have c2b0 : decide (97 ≤ a0) = true := decide_eq_true c2
    clear c2
    by_cases c3 : a0 ≤ 122
    · rw [if_pos c3] at H
      have c3b0 : decide (a0 ≤ 122) = true := decide_eq_true c3
      clear c3
      obtain rfl := Option.some.inj H
      go_enter Tryz.func110, Tryz.ntmps110
      go_wp2
      go_ret
      exact ⟨by first | rfl | (simp [bneNil]; done) | (simp; done) | (simp [*]; done), by repeat (first | exact Drawn0.refl _ | apply Drawn0.step)⟩
    · rw [if_neg c3] at H
      have c3b0 : decide (a0 ≤ 122) = false := decide_eq_false c3
      clear c3
      by_cases c4 : a0 ≥ 65
      · rw [if_pos c4] at H
        have c4b0 : decide (65 ≤ a0) = true := decide_eq_true c4
        clear c4
        by_cases c5 : a0 ≤ 90
        · rw [if_pos c5] at H
          have c5b0 : decide (a0 ≤ 90) = true := decide_eq_true c5
          clear c5
          obtain rfl := Option.some.inj H
          go_enter Tryz.func110, Tryz.ntmps110
          go_wp2
          go_ret
          exact ⟨by first | rfl | (simp [bneNil]; done) | (simp; done) | (simp [*]; done), by repeat (first | exact Drawn0.refl _ | apply Drawn0.step)⟩
        · rw [if_neg c5] at H
          have c5b0 : decide (a0 ≤ 90) = false := decide_eq_false c5
          clear c5
          by_cases c6 : a0 ≥ 48
          · rw [if_pos c6] at H
            have c6b0 : decide (48 ≤ a0) = true := decide_eq_true c6
            clear c6
            obtain rfl := Option.some.inj H
            go_enter Tryz.func110, Tryz.ntmps110
            go_wp2
            go_ret
            exact ⟨by first | rfl | (simp [bneNil]; done) | (simp; done) | (simp [*]; done), by repeat (first | exact Drawn0.refl _ | apply Drawn0.step)⟩
          · rw [if_neg c6] at H
            have c6b0 : decide (48 ≤ a0) = false := decide_eq_false c6
            clear c6
            obtain rfl := Option.some.inj H
            go_enter Tryz.func110, Tryz.ntmps110
            go_wp2
            go_ret
            exact ⟨by first | rfl | (simp [bneNil]; done) | (simp; done) | (simp [*]; done), by repeat (first | exact Drawn0.refl _ | apply Drawn0.step)⟩
      · rw [if_neg c4] at H
        have c4b0 : decide (65 ≤ a0) = false := decide_eq_false c4
        clear c4
        by_cases c7 : a0 ≥ 48
        · rw [if_pos c7] at H
          have c7b0 : decide (48 ≤ a0) = true := decide_eq_true c7
          clear c7
          obtain rfl := Option.some.inj H
          go_enter Tryz.func110, Tryz.ntmps110
          go_wp2
          go_ret
          exact ⟨by first | rfl | (simp [bneNil]; done) | (simp; done) | (simp [*]; done), by repeat (first | exact Drawn0.refl _ | apply Drawn0.step)⟩
        · rw [if_neg c7] at H
          have c7b0 : decide (48 ≤ a0) = false := decide_eq_false c7
          clear c7
          obtain rfl := Option.some.inj H
          go_enter Tryz.func110, Tryz.ntmps110
          go_wp2
          go_ret
          exact ⟨by first | rfl | (simp [bneNil]; done) | (simp; done) | (simp [*]; done), by repeat (first | exact Drawn0.refl _ | apply Drawn0.step)⟩
  · rw [if_neg c2] at H
    have c2b0 : decide (97 ≤ a0) = false := decide_eq_false c2
    clear c2
    by_cases c8 : a0 ≥ 65
    · rw [if_pos c8] at H
      have c8b0 : decide (65 ≤ a0) = true := decide_eq_true c8
      clear c8
      by_cases c9 : a0 ≤ 90
      · rw [if_pos c9] at H
        have c9b0 : decide (a0 ≤ 90) = true := decide_eq_true c9
        clear c9
        obtain rfl := Option.some.inj H
        go_enter Tryz.func110, Tryz.ntmps110
        go_wp2
        go_ret
        exact ⟨by first | rfl | (simp [bneNil]; done) | (simp; done) | (simp [*]; done), by repeat (first | exact Drawn0.refl _ | apply Drawn0.step)⟩
      · rw [if_neg c9] at H
        have c9b0 : decide (a0 ≤ 90) = false := decide_eq_false c9
        clear c9
        by_cases c10 : a0 ≥ 48
        · rw [if_pos c10] at H
          have c10b0 : decide (48 ≤ a0) = true := decide_eq_true c10
          clear c10
          obtain rfl := Option.some.inj H
          go_enter Tryz.func110, Tryz.ntmps110
          go_wp2
          go_ret
          exact ⟨by first | rfl | (simp [bneNil]; done) | (simp; done) | (simp [*]; done), by repeat (first | exact Drawn0.refl _ | apply Drawn0.step)⟩
        · rw [if_neg c10] at H
          have c10b0 : decide (48 ≤ a0) = false := decide_eq_false c10
          clear c10
          obtain rfl := Option.some.inj H
          go_enter Tryz.func110, Tryz.ntmps110
          go_wp2
          go_ret
          exact ⟨by first | rfl | (simp [bneNil]; done) | (simp; done) | (simp [*]; done), by repeat (first | exact Drawn0.refl _ | apply Drawn0.step)⟩
    · rw [if_neg c8] at H
      have c8b0 : decide (65 ≤ a0) = false := decide_eq_false c8
      clear c8
      by_cases c11 : a0 ≥ 48
      · rw [if_pos c11] at H
        have c11b0 : decide (48 ≤ a0) = true := decide_eq_true c11
        clear c11
        obtain rfl := Option.some.inj H
        go_enter Tryz.func110, Tryz.ntmps110
        go_wp2
        go_ret
        exact ⟨by first | rfl | (simp [bneNil]; done) | (simp; done) | (simp [*]; done), by repeat (first | exact Drawn0.refl _ | apply Drawn0.step)⟩
      · rw [if_neg c11] at H
        have c11b0 : decide (48 ≤ a0) = false := decide_eq_false c11
        clear c11
        obtain rfl := Option.some.inj H
        go_enter Tryz.func110, Tryz.ntmps110
        go_wp2
        go_ret
        exact ⟨by first | rfl | (simp [bneNil]; done) | (simp; done) | (simp [*]; done), by repeat (first | exact Drawn0.refl _ | apply Drawn0.step)⟩

/-! ### postriderref05_Domain: function 63 -/
mutual
def postriderref05_Domain.j0 : Nat → ByteArray → Bool → Option (Int)
 | 0, _, _ => none
 | k + 1, x0, x13 => if x13 = true then ((postriderref05_literal.f k x0).bind fun t254 => (if t254 = true then (some 0) else (some 5))) else (postriderref05_Domain.l0 k x0 (decide ((x0.size : Int) > 255)) 0 0)
def postriderref05_Domain.l0 : Nat → ByteArray → Bool → Int → Int → Option (Int)
 | 0, _, _, _, _ => none
 | k + 1, x0, x3, x4, x5 => if x5 ≤ (x0.size : Int) then (if x5 < (x0.size : Int) then (if 0 ≤ x5 then (postriderref05_Domain.j2 k x0 x3 x4 x5 ((bt x0 x5) != 46)) else (none)) else (postriderref05_Domain.j2 k x0 x3 x4 x5 false)) else (if x3 = true then (some 3) else (some 0))
def postriderref05_Domain.j2 : Nat → ByteArray → Bool → Int → Int → Bool → Option (Int)
 | 0, _, _, _, _, _ => none
 | k + 1, x0, x3, x4, x5, x34 => if x34 = true then (if 0 ≤ x5 then (if x5 < (x0.size : Int) then ((postriderref05_letter.f (bt x0 x5)).bind fun t255 => (if t255 = true then (postriderref05_Domain.l0 k x0 x3 x4 (wrap64 (x5 + 1))) else (if (bt x0 x5) = 45 then (postriderref05_Domain.l0 k x0 x3 x4 (wrap64 (x5 + 1))) else (some 5)))) else (none)) else (none)) else (if x5 = x4 then (postriderref05_Domain.j3 k x0 x3 x4 x5 true) else (if 0 ≤ x4 then (if x4 < (x0.size : Int) then (if (bt x0 x4) = 45 then (postriderref05_Domain.j3 k x0 x3 x4 x5 true) else (if 0 ≤ (wrap64 (x5 - 1)) then (if (wrap64 (x5 - 1)) < (x0.size : Int) then (postriderref05_Domain.j3 k x0 x3 x4 x5 ((bt x0 (wrap64 (x5 - 1))) == 45)) else (none)) else (none))) else (none)) else (none)))
def postriderref05_Domain.j3 : Nat → ByteArray → Bool → Int → Int → Bool → Option (Int)
 | 0, _, _, _, _, _ => none
 | k + 1, x0, x3, x4, x5, x61 => if x61 = true then (some 5) else (if (wrap64 (x5 - x4)) > 63 then (postriderref05_Domain.l0 k x0 true (wrap64 (x5 + 1)) (wrap64 (x5 + 1))) else (postriderref05_Domain.l0 k x0 x3 (wrap64 (x5 + 1)) (wrap64 (x5 + 1))))
end
def postriderref05_Domain.f (k : Nat) (a0 : ByteArray) : Option (Int) := if (a0.size : Int) > 0 then (if 0 < (a0.size : Int) then (postriderref05_Domain.j0 k a0 ((bt a0 0) == 91)) else (none)) else (postriderref05_Domain.j0 k a0 false)
theorem postriderref05_Domain.mono_l : ∀ k, (∀ y0 y1, LeO (postriderref05_Domain.j0 k y0 y1) (postriderref05_Domain.j0 (k + 1) y0 y1)) ∧ (∀ y0 y1 y2 y3, LeO (postriderref05_Domain.l0 k y0 y1 y2 y3) (postriderref05_Domain.l0 (k + 1) y0 y1 y2 y3)) ∧ (∀ y0 y1 y2 y3 y4, LeO (postriderref05_Domain.j2 k y0 y1 y2 y3 y4) (postriderref05_Domain.j2 (k + 1) y0 y1 y2 y3 y4)) ∧ (∀ y0 y1 y2 y3 y4, LeO (postriderref05_Domain.j3 k y0 y1 y2 y3 y4) (postriderref05_Domain.j3 (k + 1) y0 y1 y2 y3 y4))
 | 0 => ⟨fun _ _ r h => by simp [postriderref05_Domain.j0] at h, fun _ _ _ _ r h => by simp [postriderref05_Domain.l0] at h, fun _ _ _ _ _ r h => by simp [postriderref05_Domain.j2] at h, fun _ _ _ _ _ r h => by simp [postriderref05_Domain.j3] at h⟩
 | k + 1 => by
  obtain ⟨ih0, ih1, ih2, ih3⟩ := postriderref05_Domain.mono_l k
  refine ⟨?_, ?_, ?_, ?_⟩
  ·intro y0 y1
   unfold postriderref05_Domain.j0
   repeat' first
   | (with_reducible exact ih0 _ _)
   | (with_reducible exact ih1 _ _ _ _)
   | (with_reducible exact ih2 _ _ _ _ _)
   | (with_reducible exact ih3 _ _ _ _ _)
   | (with_reducible exact postriderref05_literal.mono _ _)
   | (with_reducible exact LeO.refl _)
   | (with_reducible exact LeO.none _)
   | (with_reducible refine LeO.ite ?_ ?_)
   | (with_reducible refine LeO.bind ?_ (fun _ => ?_))
   | exact ih0 _ _
   | exact ih1 _ _ _ _
   | exact ih2 _ _ _ _ _
   | exact ih3 _ _ _ _ _
   | exact postriderref05_literal.mono _ _
   | exact LeO.none _
   | refine LeO.ite ?_ ?_
   | refine LeO.bind ?_ (fun _ => ?_)
  ·intro y0 y1 y2 y3
   unfold postriderref05_Domain.l0
   repeat' first
   | (with_reducible exact ih0 _ _)
   | (with_reducible exact ih1 _ _ _ _)
   | (with_reducible exact ih2 _ _ _ _ _)
   | (with_reducible exact ih3 _ _ _ _ _)
   | (with_reducible exact postriderref05_literal.mono _ _)
   | (with_reducible exact LeO.refl _)
   | (with_reducible exact LeO.none _)
   | (with_reducible refine LeO.ite ?_ ?_)
   | (with_reducible refine LeO.bind ?_ (fun _ => ?_))
   | exact ih0 _ _
   | exact ih1 _ _ _ _
   | exact ih2 _ _ _ _ _
   | exact ih3 _ _ _ _ _
   | exact postriderref05_literal.mono _ _
   | exact LeO.none _
   | refine LeO.ite ?_ ?_
   | refine LeO.bind ?_ (fun _ => ?_)
  ·intro y0 y1 y2 y3 y4
   unfold postriderref05_Domain.j2
   repeat' first
   | (with_reducible exact ih0 _ _)
   | (with_reducible exact ih1 _ _ _ _)
   | (with_reducible exact ih2 _ _ _ _ _)
   | (with_reducible exact ih3 _ _ _ _ _)
   | (with_reducible exact postriderref05_literal.mono _ _)
   | (with_reducible exact LeO.refl _)
   | (with_reducible exact LeO.none _)
   | (with_reducible refine LeO.ite ?_ ?_)
   | (with_reducible refine LeO.bind ?_ (fun _ => ?_))
   | exact ih0 _ _
   | exact ih1 _ _ _ _
   | exact ih2 _ _ _ _ _
   | exact ih3 _ _ _ _ _
   | exact postriderref05_literal.mono _ _
   | exact LeO.none _
   | refine LeO.ite ?_ ?_
   | refine LeO.bind ?_ (fun _ => ?_)
  ·intro y0 y1 y2 y3 y4
   unfold postriderref05_Domain.j3
   repeat' first
   | (with_reducible exact ih0 _ _)
   | (with_reducible exact ih1 _ _ _ _)
   | (with_reducible exact ih2 _ _ _ _ _)
   | (with_reducible exact ih3 _ _ _ _ _)
   | (with_reducible exact postriderref05_literal.mono _ _)
   | (with_reducible exact LeO.refl _)
   | (with_reducible exact LeO.none _)
   | (with_reducible refine LeO.ite ?_ ?_)
   | (with_reducible refine LeO.bind ?_ (fun _ => ?_))
   | exact ih0 _ _
   | exact ih1 _ _ _ _
   | exact ih2 _ _ _ _ _
   | exact ih3 _ _ _ _ _
   | exact postriderref05_literal.mono _ _
   | exact LeO.none _
   | refine LeO.ite ?_ ?_
   | refine LeO.bind ?_ (fun _ => ?_)
theorem postriderref05_Domain.mono : ∀ a0 k, LeO (postriderref05_Domain.f k a0) (postriderref05_Domain.f (k + 1) a0) := by
 intro a0 k
 obtain ⟨ih0, ih1, ih2, ih3⟩ := postriderref05_Domain.mono_l k
 unfold postriderref05_Domain.f
 repeat' first
   | (with_reducible exact ih0 _ _)
   | (with_reducible exact ih1 _ _ _ _)
   | (with_reducible exact ih2 _ _ _ _ _)
   | (with_reducible exact ih3 _ _ _ _ _)
   | (with_reducible exact postriderref05_literal.mono _ _)
   | (with_reducible exact LeO.refl _)
   | (with_reducible exact LeO.none _)
   | (with_reducible refine LeO.ite ?_ ?_)
   | (with_reducible refine LeO.bind ?_ (fun _ => ?_))
   | exact ih0 _ _
   | exact ih1 _ _ _ _
   | exact ih2 _ _ _ _ _
   | exact ih3 _ _ _ _ _
   | exact postriderref05_literal.mono _ _
   | exact LeO.none _
   | refine LeO.ite ?_ ?_
   | refine LeO.bind ?_ (fun _ => ?_)
set_option maxHeartbeats 8000000 in
set_option maxRecDepth 100000 in
theorem postriderref05_Domain.calls (k : Nat) (a0 : ByteArray) (r : Int) (w : World) (h : postriderref05_Domain.f k a0 = some r) :
  Calls Tryz.prog 63 #[.string a0] w fun e w' => e = .returned (.int .i64 r) ∧ Below w.heap.size w w' := by
 have HB := Aside0.mk (Below.refl w.heap.size w)
 have H : (if (a0.size : Int) > 0 then (if 0 < (a0.size : Int) then (postriderref05_Domain.j0 k a0 ((bt a0 0) == 91)) else (none)) else (postriderref05_Domain.j0 k a0 false)) = some r := h
 clear h
 have HC2 := Aside0.mk H
 clear H
 go_enter Tryz.func63, Tryz.ntmps63
 go_upto_region 1 with (fail)
 go_cut [13] (fun v13 wc => ∃ (kq : Nat) (x13_1 : Bool), v13 = .bool x13_1 ∧ Aside0 (postriderref05_Domain.j0 kq a0 x13_1 = some r) ∧ Aside0 (kq ≤ k) ∧ Aside0 (Below w.heap.size w wc))
 case first =>
  have H := HC2.out
  clear HC2
  by_cases c3 : (a0.size : Int) > 0
  ·rw [if_pos c3] at H
   have c3b0 : decide (0 < (a0.size : Int)) = true := decide_eq_true c3
   have c3b1 : decide (0 < a0.size) = true := decide_eq_true (by omega)
   clear c3
   (first | rw [c3b0] | (simp only [i64_w, i32_w]; rw [c3b0]) | skip)
   by_cases c4 : 0 < (a0.size : Int)
   ·rw [if_pos c4] at H
    have c4b0 : decide (0 < (a0.size : Int)) = true := decide_eq_true c4
    have c4b1 : decide (0 < a0.size) = true := decide_eq_true (by omega)
    clear c4
    have H' := Aside0.mk H
    clear H
    have p5 : 0 ≤ (0 : Int) := (by omega)
    have q5 : 0 < a0.size := (by have : (0 : Int) < (a0.size : Int) := od; omega)
    have hx5 : ∀ h : 0 < a0.size, ((a0[0]'h).toNat : Int) = bt a0 0 := bt_at a0 0
    clear p5
    have qi5 : (0 < (a0.size : Int)) = True := eq_true (od)
    replace q5 := eq_true q5
    go_wp2
    go_meet
    case rel => exact ⟨_, (((bt a0 0) == 91)), (by first | rfl | (simp; done) | (simp [*]; done)), H', ⟨by first | omega | exact Nat.le_refl _⟩, ⟨by repeat (first | (with_reducible first | exact HB.out | apply below_alloc | apply pw_below_drewN | apply below_drew1) | exact HB.out)⟩⟩
   ·rw [if_neg c4] at H
    exact absurd H (by simp)
  ·rw [if_neg c3] at H
   have c3b0 : decide (0 < (a0.size : Int)) = false := decide_eq_false c3
   have c3b1 : decide (0 < a0.size) = false := decide_eq_false (by omega)
   clear c3
   (first | rw [c3b0] | (simp only [i64_w, i32_w]; rw [c3b0]) | skip)
   have H' := Aside0.mk H
   clear H
   go_wp2
   go_meet
   case rel => exact ⟨_, (false), (by first | rfl | (simp; done) | (simp [*]; done)), H', ⟨by first | omega | exact Nat.le_refl _⟩, ⟨by repeat (first | (with_reducible first | exact HB.out | apply below_alloc | apply pw_below_drewN | apply below_drew1) | exact HB.out)⟩⟩
 case rest =>
  clear HC2
  try clear p2
  try clear c3
  try clear c3b0
  try clear c3b1
  try clear c4
  try clear c4b0
  try clear c4b1
  try clear p5
  try clear q5
  try clear hx5
  try clear qi5
  try clear p5
  try clear q5
  obtain ⟨kq, x13_1, rfl, HA, HJ1, HB⟩ := hcut
  cases kq with
  | zero => exact absurd HA.out (by simp [postriderref05_Domain.j0])
  | succ kj1 =>
   have H := HA.out
   clear HA
   simp only [postriderref05_Domain.j0] at H
   by_cases c6 : x13_1 = true
   ·subst c6
    have H1 : ((postriderref05_literal.f kj1 a0).bind fun t254 => (if t254 = true then (some 0) else (some 5))) = some r := by rw [if_pos rfl] at H; exact H
    clear H
    have H := H1
    clear H1
    replace H := Option.bind_eq_some_iff.mp H
    obtain ⟨t254, A70, H⟩ := H
    replace H : (if t254 = true then (some 0) else (some 5)) = some r := H
    have A7 := Aside0.mk A70
    clear A70
    by_cases c8 : t254 = true
    ·subst c8
     have H1 : (some 0) = some r := by rw [if_pos rfl] at H; exact H
     clear H
     have H := H1
     clear H1
     obtain rfl := Option.some.inj H
     go_wp2_with (first | ((with_reducible refine gate_callee (f := 109) rfl ?_); refine goesL_ (some 15) rfl rfl Tryz.func109 (by kernel_rfl) rfl #[.string a0] rfl ml ?_; (with_reducible refine (postriderref05_literal.calls kj1 a0 true _ A7.out).mono ?_); rintro e w9 ⟨rfl, hb⟩; refine ⟨_, rfl, ?_⟩; have n0_ := Aside0.mk (below_step bl hb); clear HB; have HB := n0_; clear n0_; (try clear hb); (try clear hb2); (try clear hk); (try clear hi)))
     go_ret
     exact ⟨by first | rfl | (simp [bneNil]; done) | (simp [errW_none, errW_some] <;> rfl) | (simp [*, errW_none, errW_some] <;> rfl), by repeat (first | (with_reducible first | exact HB.out | apply below_alloc | apply pw_below_drewN | apply below_drew1) | exact HB.out)⟩
    ·replace c8 := Bool.eq_false_iff.mpr c8
     subst c8
     have H1 : (some 5) = some r := by rw [if_neg (show ¬ (false = true) by decide)] at H; exact H
     clear H
     have H := H1
     clear H1
     obtain rfl := Option.some.inj H
     go_wp2_with (first | ((with_reducible refine gate_callee (f := 109) rfl ?_); refine goesL_ (some 15) rfl rfl Tryz.func109 (by kernel_rfl) rfl #[.string a0] rfl ml ?_; (with_reducible refine (postriderref05_literal.calls kj1 a0 false _ A7.out).mono ?_); rintro e w10 ⟨rfl, hb⟩; refine ⟨_, rfl, ?_⟩; have n0_ := Aside0.mk (below_step bl hb); clear HB; have HB := n0_; clear n0_; (try clear hb); (try clear hb2); (try clear hk); (try clear hi)))
     go_ret
     exact ⟨by first | rfl | (simp [bneNil]; done) | (simp [errW_none, errW_some] <;> rfl) | (simp [*, errW_none, errW_some] <;> rfl), by repeat (first | (with_reducible first | exact HB.out | apply below_alloc | apply pw_below_drewN | apply below_drew1) | exact HB.out)⟩
   ·replace c6 := Bool.eq_false_iff.mpr c6
    subst c6
    have H1 : (postriderref05_Domain.l0 kj1 a0 (decide ((a0.size : Int) > 255)) 0 0) = some r := by rw [if_neg (show ¬ (false = true) by decide)] at H; exact H
    clear H
    have H := H1
    clear H1
    have H' := Aside0.mk H
    clear H
    go_wp2
    go_loopg [3, 4, 5] kj1 (fun kq v3 v4 v5 w' => ∃ (x3_2 : Bool) (x4_2 : Int) (x5_2 : Int), v3 = .bool x3_2 ∧ v4 = .int .i64 x4_2 ∧ v5 = .int .i64 x5_2 ∧ Aside0 (postriderref05_Domain.l0 kq a0 x3_2 x4_2 x5_2 = some r) ∧ Aside0 (kq ≤ kj1) ∧ Aside0 (Below w.heap.size w w'))
    case atStart => exact ⟨(decide ((a0.size : Int) > 255)), (0), (0), (by first | rfl | (simp; done) | (simp [*]; done)), (by first | rfl | (simp; done) | (simp [*]; done)), (by first | rfl | (simp; done) | (simp [*]; done)), H', ⟨Nat.le_refl _⟩, ⟨by repeat (first | (with_reducible first | exact HB.out | apply below_alloc | apply pw_below_drewN | apply below_drew1) | exact HB.out)⟩⟩
    case round =>
     clear H'
     try clear c1
     try clear p2
     try clear c3
     try clear c3b0
     try clear c3b1
     try clear c4
     try clear c4b0
     try clear c4b1
     try clear p5
     try clear q5
     try clear hx5
     try clear qi5
     try clear c6
     try clear c8
     try clear c10
     try clear p2
     try clear p5
     try clear q5
     obtain ⟨x3_2, x4_2, x5_2, rfl, rfl, rfl, HA, HK2, HB⟩ := hrel
     cases gk with
     | zero => exact absurd HA.out (by simp [postriderref05_Domain.l0])
     | succ k2 =>
      have H := HA.out
      clear HA
      simp only [postriderref05_Domain.l0] at H
      by_cases c11 : x5_2 ≤ (a0.size : Int)
      ·rw [if_pos c11] at H
       have c11b0 : decide (x5_2 ≤ (a0.size : Int)) = true := decide_eq_true c11
       clear c11
       have HC12 := Aside0.mk H
       clear H
       go_upto_region 10 with (fail)
       go_cut [34] (fun v34 wc => ∃ (kq : Nat) (x34_11 : Bool), v34 = .bool x34_11 ∧ Aside0 (postriderref05_Domain.j2 kq a0 x3_2 x4_2 x5_2 x34_11 = some r) ∧ Aside0 (kq ≤ k2) ∧ Aside0 (Below w.heap.size w wc))
       case first =>
        have H := HC12.out
        clear HC12
        by_cases c13 : x5_2 < (a0.size : Int)
        ·rw [if_pos c13] at H
         have c13b0 : decide (x5_2 < (a0.size : Int)) = true := decide_eq_true c13
         clear c13
         (first | rw [c13b0] | (simp only [i64_w, i32_w]; rw [c13b0]) | skip)
         by_cases c14 : 0 ≤ x5_2
         ·rw [if_pos c14] at H
          have c14b0 : decide (0 ≤ x5_2) = true := decide_eq_true c14
          clear c14
          have H' := Aside0.mk H
          clear H
          have p15 : 0 ≤ (x5_2 : Int) := od
          have q15 : x5_2 < (a0.size : Int) := od
          have hx15 := bt_at a0 x5_2
          replace p15 := eq_true p15
          replace q15 := eq_true q15
          go_wp2
          go_meet
          case rel => exact ⟨_, (((bt a0 x5_2) != 46)), (by first | rfl | (simp; done) | (simp [*]; done)), H', ⟨by have := HJ1.out; have := HK2.out; first | omega | exact Nat.le_refl _⟩, ⟨by repeat (first | (with_reducible first | exact HB.out | apply below_alloc | apply pw_below_drewN | apply below_drew1) | exact HB.out)⟩⟩
         ·rw [if_neg c14] at H
          exact absurd H (by simp)
        ·rw [if_neg c13] at H
         have c13b0 : decide (x5_2 < (a0.size : Int)) = false := decide_eq_false c13
         clear c13
         (first | rw [c13b0] | (simp only [i64_w, i32_w]; rw [c13b0]) | skip)
         have H' := Aside0.mk H
         clear H
         go_wp2
         go_meet
         case rel => exact ⟨_, (false), (by first | rfl | (simp; done) | (simp [*]; done)), H', ⟨by have := HJ1.out; have := HK2.out; first | omega | exact Nat.le_refl _⟩, ⟨by repeat (first | (with_reducible first | exact HB.out | apply below_alloc | apply pw_below_drewN | apply below_drew1) | exact HB.out)⟩⟩
       case rest =>
        clear HC12
        try clear c1
        try clear p1
        try clear q1
        try clear hx1
        try clear p2
        try clear c3
        try clear c3b0
        try clear c3b1
        try clear c4
        try clear c4b0
        try clear c4b1
        try clear p5
        try clear q5
        try clear hx5
        try clear qi5
        try clear c6
        try clear c8
        try clear c10
        try clear c11
        try clear c11b0
        try clear c13
        try clear c13b0
        try clear c14
        try clear c14b0
        try clear p15
        try clear q15
        try clear hx15
        try clear p15
        try clear p2
        try clear p5
        try clear q15
        try clear q5
        obtain ⟨kq, x34_11, rfl, HA, HJ11, HB⟩ := hcut
        cases kq with
        | zero => exact absurd HA.out (by simp [postriderref05_Domain.j2])
        | succ kj11 =>
         have H := HA.out
         clear HA
         simp only [postriderref05_Domain.j2] at H
         by_cases c16 : x34_11 = true
         ·subst c16
          have H1 : (if 0 ≤ x5_2 then (if x5_2 < (a0.size : Int) then ((postriderref05_letter.f (bt a0 x5_2)).bind fun t255 => (if t255 = true then (postriderref05_Domain.l0 kj11 a0 x3_2 x4_2 (wrap64 (x5_2 + 1))) else (if (bt a0 x5_2) = 45 then (postriderref05_Domain.l0 kj11 a0 x3_2 x4_2 (wrap64 (x5_2 + 1))) else (some 5)))) else (none)) else (none)) = some r := by rw [if_pos rfl] at H; exact H
          clear H
          have H := H1
          clear H1
          by_cases c17 : 0 ≤ x5_2
          ·rw [if_pos c17] at H
           have c17b0 : decide (0 ≤ x5_2) = true := decide_eq_true c17
           clear c17
           by_cases c18 : x5_2 < (a0.size : Int)
           ·rw [if_pos c18] at H
            have c18b0 : decide (x5_2 < (a0.size : Int)) = true := decide_eq_true c18
            clear c18
            replace H := Option.bind_eq_some_iff.mp H
            obtain ⟨t255, A200, H⟩ := H
            replace H : (if t255 = true then (postriderref05_Domain.l0 kj11 a0 x3_2 x4_2 (wrap64 (x5_2 + 1))) else (if (bt a0 x5_2) = 45 then (postriderref05_Domain.l0 kj11 a0 x3_2 x4_2 (wrap64 (x5_2 + 1))) else (some 5))) = some r := H
            have A20 := Aside0.mk A200
            clear A200
            by_cases c21 : t255 = true
            ·subst c21
             have H1 : (postriderref05_Domain.l0 kj11 a0 x3_2 x4_2 (wrap64 (x5_2 + 1))) = some r := by rw [if_pos rfl] at H; exact H
             clear H
             have H := H1
             clear H1
             have H' := Aside0.mk H
             clear H
             have p19 : 0 ≤ (x5_2 : Int) := od
             have q19 : x5_2 < (a0.size : Int) := od
             have hx19 := bt_at a0 x5_2
             replace p19 := eq_true p19
             replace q19 := eq_true q19
             go_wp2_with (first | ((with_reducible refine gate_callee (f := 110) rfl ?_); refine goesL_ (some 38) rfl rfl Tryz.func110 (by kernel_rfl) rfl #[.int .u8 (bt a0 x5_2)] rfl ml ?_; (with_reducible refine (postriderref05_letter.calls (bt a0 x5_2) true _ A20.out).mono ?_); rintro e w' ⟨rfl, ⟨nd, rfl⟩⟩; refine ⟨_, rfl, ?_⟩))
             go_roundg kj11
             case measure => have := HJ1.out; have := HK2.out; have := HJ11.out; omega
             case rel => exact ⟨(x3_2), (x4_2), (wrap64 (x5_2 + 1)), (by first | rfl | (simp; done) | (simp [*]; done)), (by first | rfl | (simp; done) | (simp [*]; done)), (by first | rfl | (simp; done) | (simp [*]; done)), H', ⟨by have := HJ1.out; have := HK2.out; have := HJ11.out; omega⟩, ⟨by repeat (first | (with_reducible first | exact HB.out | apply below_alloc | apply pw_below_drewN | apply below_drew1) | exact HB.out)⟩⟩
            ·replace c21 := Bool.eq_false_iff.mpr c21
             subst c21
             have H1 : (if (bt a0 x5_2) = 45 then (postriderref05_Domain.l0 kj11 a0 x3_2 x4_2 (wrap64 (x5_2 + 1))) else (some 5)) = some r := by rw [if_neg (show ¬ (false = true) by decide)] at H; exact H
             clear H
             have H := H1
             clear H1
             by_cases c23 : (bt a0 x5_2) = 45
             ·rw [if_pos c23] at H
              have c23b0 : ((bt a0 x5_2) == 45) = true := beq_iff_eq.mpr c23
              have c23b1 : ((bt a0 x5_2) != 45) = false := bne_eq_false_iff_eq.mpr c23
              clear c23
              have H' := Aside0.mk H
              clear H
              have p19 : 0 ≤ (x5_2 : Int) := od
              have q19 : x5_2 < (a0.size : Int) := od
              have hx19 := bt_at a0 x5_2
              replace p19 := eq_true p19
              replace q19 := eq_true q19
              go_wp2_with (first | ((with_reducible refine gate_callee (f := 110) rfl ?_); refine goesL_ (some 38) rfl rfl Tryz.func110 (by kernel_rfl) rfl #[.int .u8 (bt a0 x5_2)] rfl ml ?_; (with_reducible refine (postriderref05_letter.calls (bt a0 x5_2) false _ A20.out).mono ?_); rintro e w' ⟨rfl, ⟨nd, rfl⟩⟩; refine ⟨_, rfl, ?_⟩; have p22 : 0 ≤ (x5_2 : Int) := od; have q22 : x5_2 < (a0.size : Int) := od; have hx22 := bt_at a0 x5_2; replace p22 := eq_true p22; replace q22 := eq_true q22))
              go_roundg kj11
              case measure => have := HJ1.out; have := HK2.out; have := HJ11.out; omega
              case rel => exact ⟨(x3_2), (x4_2), (wrap64 (x5_2 + 1)), (by first | rfl | (simp; done) | (simp [*]; done)), (by first | rfl | (simp; done) | (simp [*]; done)), (by first | rfl | (simp; done) | (simp [*]; done)), H', ⟨by have := HJ1.out; have := HK2.out; have := HJ11.out; omega⟩, ⟨by repeat (first | (with_reducible first | exact HB.out | apply below_alloc | apply pw_below_drewN | apply below_drew1) | exact HB.out)⟩⟩
             ·rw [if_neg c23] at H
              have c23b0 : ((bt a0 x5_2) == 45) = false := beq_eq_false_iff_ne.mpr c23
              have c23b1 : ((bt a0 x5_2) != 45) = true := bne_iff_ne.mpr c23
              obtain rfl := Option.some.inj H
              have p19 : 0 ≤ (x5_2 : Int) := od
              have q19 : x5_2 < (a0.size : Int) := od
              have hx19 := bt_at a0 x5_2
              replace p19 := eq_true p19
              replace q19 := eq_true q19
              go_wp2_with (first | ((with_reducible refine gate_callee (f := 110) rfl ?_); refine goesL_ (some 38) rfl rfl Tryz.func110 (by kernel_rfl) rfl #[.int .u8 (bt a0 x5_2)] rfl ml ?_; (with_reducible refine (postriderref05_letter.calls (bt a0 x5_2) false _ A20.out).mono ?_); rintro e w' ⟨rfl, ⟨nd, rfl⟩⟩; refine ⟨_, rfl, ?_⟩; have p22 : 0 ≤ (x5_2 : Int) := od; have q22 : x5_2 < (a0.size : Int) := od; have hx22 := bt_at a0 x5_2; replace p22 := eq_true p22; replace q22 := eq_true q22))
              go_ret
              exact ⟨by first | rfl | (simp [bneNil]; done) | (simp [errW_none, errW_some] <;> rfl) | (simp [*, errW_none, errW_some] <;> rfl), by repeat (first | (with_reducible first | exact HB.out | apply below_alloc | apply pw_below_drewN | apply below_drew1) | exact HB.out)⟩
           ·rw [if_neg c18] at H
            exact absurd H (by simp)
          ·rw [if_neg c17] at H
           exact absurd H (by simp)
         ·replace c16 := Bool.eq_false_iff.mpr c16
          subst c16
          have H1 : (if x5_2 = x4_2 then (postriderref05_Domain.j3 kj11 a0 x3_2 x4_2 x5_2 true) else (if 0 ≤ x4_2 then (if x4_2 < (a0.size : Int) then (if (bt a0 x4_2) = 45 then (postriderref05_Domain.j3 kj11 a0 x3_2 x4_2 x5_2 true) else (if 0 ≤ (wrap64 (x5_2 - 1)) then (if (wrap64 (x5_2 - 1)) < (a0.size : Int) then (postriderref05_Domain.j3 kj11 a0 x3_2 x4_2 x5_2 ((bt a0 (wrap64 (x5_2 - 1))) == 45)) else (none)) else (none))) else (none)) else (none))) = some r := by rw [if_neg (show ¬ (false = true) by decide)] at H; exact H
          clear H
          have H := H1
          clear H1
          have HC24 := Aside0.mk H
          clear H
          go_upto_region 13 with (fail)
          go_cut [61] (fun v61 wc => ∃ (kq : Nat) (x61_23 : Bool), v61 = .bool x61_23 ∧ Aside0 (postriderref05_Domain.j3 kq a0 x3_2 x4_2 x5_2 x61_23 = some r) ∧ Aside0 (kq ≤ kj11) ∧ Aside0 (Below w.heap.size w wc))
          case first =>
           have H := HC24.out
           clear HC24
           by_cases c25 : x5_2 = x4_2
           ·rw [if_pos c25] at H
            have c25b0 : (x5_2 == x4_2) = true := beq_iff_eq.mpr c25
            have c25b1 : (x5_2 != x4_2) = false := bne_eq_false_iff_eq.mpr c25
            clear c25
            (first | rw [c25b0] | (simp only [i64_w, i32_w]; rw [c25b0]) | skip)
            have H' := Aside0.mk H
            clear H
            go_wp2
            go_meet
            case rel => exact ⟨_, (true), (by first | rfl | (simp; done) | (simp [*]; done)), H', ⟨by have := HJ1.out; have := HK2.out; have := HJ11.out; first | omega | exact Nat.le_refl _⟩, ⟨by repeat (first | (with_reducible first | exact HB.out | apply below_alloc | apply pw_below_drewN | apply below_drew1) | exact HB.out)⟩⟩
           ·rw [if_neg c25] at H
            have c25b0 : (x5_2 == x4_2) = false := beq_eq_false_iff_ne.mpr c25
            have c25b1 : (x5_2 != x4_2) = true := bne_iff_ne.mpr c25
            (first | rw [c25b0] | (simp only [i64_w, i32_w]; rw [c25b0]) | skip)
            by_cases c26 : 0 ≤ x4_2
            ·rw [if_pos c26] at H
             have c26b0 : decide (0 ≤ x4_2) = true := decide_eq_true c26
             clear c26
             by_cases c27 : x4_2 < (a0.size : Int)
             ·rw [if_pos c27] at H
              have c27b0 : decide (x4_2 < (a0.size : Int)) = true := decide_eq_true c27
              clear c27
              by_cases c29 : (bt a0 x4_2) = 45
              ·rw [if_pos c29] at H
               have c29b0 : ((bt a0 x4_2) == 45) = true := beq_iff_eq.mpr c29
               have c29b1 : ((bt a0 x4_2) != 45) = false := bne_eq_false_iff_eq.mpr c29
               clear c29
               have H' := Aside0.mk H
               clear H
               have p28 : 0 ≤ (x4_2 : Int) := od
               have q28 : x4_2 < (a0.size : Int) := od
               have hx28 := bt_at a0 x4_2
               replace p28 := eq_true p28
               replace q28 := eq_true q28
               go_wp2
               go_meet
               case rel => exact ⟨_, (true), (by first | rfl | (simp; done) | (simp [*]; done)), H', ⟨by have := HJ1.out; have := HK2.out; have := HJ11.out; first | omega | exact Nat.le_refl _⟩, ⟨by repeat (first | (with_reducible first | exact HB.out | apply below_alloc | apply pw_below_drewN | apply below_drew1) | exact HB.out)⟩⟩
              ·rw [if_neg c29] at H
               have c29b0 : ((bt a0 x4_2) == 45) = false := beq_eq_false_iff_ne.mpr c29
               have c29b1 : ((bt a0 x4_2) != 45) = true := bne_iff_ne.mpr c29
               obtain ⟨ji30, hji30⟩ : ∃ j_ : Int, (wrap64 (x5_2 - 1)) = j_ := ⟨_, rfl⟩
               replace H : (if 0 ≤ (ji30) then (if (ji30) < (a0.size : Int) then (postriderref05_Domain.j3 kj11 a0 x3_2 x4_2 x5_2 ((bt a0 (ji30)) == 45)) else (none)) else (none)) = some r := by first | (rw [hji30] at H; exact H) | (simp only [hji30] at H ⊢; exact H)
               have hji30w : (IntKind.i64.wrap (x5_2 - 1)) = ji30 := (i64_w _).trans hji30
               by_cases c31 : 0 ≤ (ji30)
               ·rw [if_pos c31] at H
                have c31b0 : decide (0 ≤ (ji30)) = true := decide_eq_true c31
                clear c31
                by_cases c32 : (ji30) < (a0.size : Int)
                ·rw [if_pos c32] at H
                 have c32b0 : decide ((ji30) < (a0.size : Int)) = true := decide_eq_true c32
                 clear c32
                 have H' := Aside0.mk H
                 clear H
                 have p28 : 0 ≤ (x4_2 : Int) := od
                 have q28 : x4_2 < (a0.size : Int) := od
                 have hx28 := bt_at a0 x4_2
                 replace p28 := eq_true p28
                 replace q28 := eq_true q28
                 have p33 : 0 ≤ ((ji30) : Int) := od
                 have q33 : (ji30) < (a0.size : Int) := od
                 have hx33 := bt_at a0 (ji30)
                 replace p33 := eq_true p33
                 replace q33 := eq_true q33
                 go_wp2
                 go_meet
                 case rel => exact ⟨_, (((bt a0 (ji30)) == 45)), (by first | rfl | (simp; done) | (simp only [← hji30] <;> (first | rfl | simp)) | (simp [*]; done)), H', ⟨by have := HJ1.out; have := HK2.out; have := HJ11.out; first | omega | exact Nat.le_refl _⟩, ⟨by repeat (first | (with_reducible first | exact HB.out | apply below_alloc | apply pw_below_drewN | apply below_drew1) | exact HB.out)⟩⟩
                ·rw [if_neg c32] at H
                 exact absurd H (by simp)
               ·rw [if_neg c31] at H
                exact absurd H (by simp)
             ·rw [if_neg c27] at H
              exact absurd H (by simp)
            ·rw [if_neg c26] at H
             exact absurd H (by simp)
          case rest =>
           clear HC24
           try clear c1
           try clear p1
           try clear q1
           try clear hx1
           try clear c2
           try clear p2
           try clear q2
           try clear hx2
           try clear c3
           try clear c3b0
           try clear c3b1
           try clear p3
           try clear q3
           try clear hx3
           try clear c4
           try clear c4b0
           try clear c4b1
           try clear p5
           try clear q5
           try clear hx5
           try clear qi5
           try clear c6
           try clear p6
           try clear c8
           try clear c10
           try clear c11
           try clear c11b0
           try clear c13
           try clear c13b0
           try clear c14
           try clear c14b0
           try clear p15
           try clear q15
           try clear hx15
           try clear c16
           try clear c17
           try clear c17b0
           try clear c18
           try clear c18b0
           try clear p19
           try clear q19
           try clear hx19
           try clear c21
           try clear p22
           try clear q22
           try clear hx22
           try clear c23
           try clear c23b0
           try clear c23b1
           try clear c25
           try clear c25b0
           try clear c25b1
           try clear c26
           try clear c26b0
           try clear c27
           try clear c27b0
           try clear p28
           try clear q28
           try clear hx28
           try clear c29
           try clear c29b0
           try clear c29b1
           try clear c31
           try clear c31b0
           try clear c32
           try clear c32b0
           try clear p33
           try clear q33
           try clear hx33
           try clear p1
           try clear p15
           try clear p19
           try clear p2
           try clear p22
           try clear p28
           try clear p33
           try clear p5
           try clear q1
           try clear q15
           try clear q19
           try clear q22
           try clear q28
           try clear q33
           try clear q5
           obtain ⟨kq, x61_23, rfl, HA, HJ23, HB⟩ := hcut
           cases kq with
           | zero => exact absurd HA.out (by simp [postriderref05_Domain.j3])
           | succ kj23 =>
            have H := HA.out
            clear HA
            simp only [postriderref05_Domain.j3] at H
            by_cases c34 : x61_23 = true
            ·subst c34
             have H1 : (some 5) = some r := by rw [if_pos rfl] at H; exact H
             clear H
             have H := H1
             clear H1
             obtain rfl := Option.some.inj H
             go_wp2
             go_ret
             exact ⟨by first | rfl | (simp [bneNil]; done) | (simp [errW_none, errW_some] <;> rfl) | (simp [*, errW_none, errW_some] <;> rfl), by repeat (first | (with_reducible first | exact HB.out | apply below_alloc | apply pw_below_drewN | apply below_drew1) | exact HB.out)⟩
            ·replace c34 := Bool.eq_false_iff.mpr c34
             subst c34
             have H1 : (if (wrap64 (x5_2 - x4_2)) > 63 then (postriderref05_Domain.l0 kj23 a0 true (wrap64 (x5_2 + 1)) (wrap64 (x5_2 + 1))) else (postriderref05_Domain.l0 kj23 a0 x3_2 (wrap64 (x5_2 + 1)) (wrap64 (x5_2 + 1)))) = some r := by rw [if_neg (show ¬ (false = true) by decide)] at H; exact H
             clear H
             have H := H1
             clear H1
             by_cases c35 : (wrap64 (x5_2 - x4_2)) > 63
             ·rw [if_pos c35] at H
              have c35b0 : decide (63 < (wrap64 (x5_2 - x4_2))) = true := decide_eq_true c35
              clear c35
              have H' := Aside0.mk H
              clear H
              go_wp2
              go_roundg kj23
              case measure => have := HJ1.out; have := HK2.out; have := HJ11.out; have := HJ23.out; omega
              case rel => exact ⟨(true), (wrap64 (x5_2 + 1)), (wrap64 (x5_2 + 1)), (by first | rfl | (simp; done) | (simp [*]; done)), (by first | rfl | (simp; done) | (simp [*]; done)), (by first | rfl | (simp; done) | (simp [*]; done)), H', ⟨by have := HJ1.out; have := HK2.out; have := HJ11.out; have := HJ23.out; omega⟩, ⟨by repeat (first | (with_reducible first | exact HB.out | apply below_alloc | apply pw_below_drewN | apply below_drew1) | exact HB.out)⟩⟩
             ·rw [if_neg c35] at H
              have c35b0 : decide (63 < (wrap64 (x5_2 - x4_2))) = false := decide_eq_false c35
              clear c35
              have H' := Aside0.mk H
              clear H
              go_wp2
              go_roundg kj23
              case measure => have := HJ1.out; have := HK2.out; have := HJ11.out; have := HJ23.out; omega
              case rel => exact ⟨(x3_2), (wrap64 (x5_2 + 1)), (wrap64 (x5_2 + 1)), (by first | rfl | (simp; done) | (simp [*]; done)), (by first | rfl | (simp; done) | (simp [*]; done)), (by first | rfl | (simp; done) | (simp [*]; done)), H', ⟨by have := HJ1.out; have := HK2.out; have := HJ11.out; have := HJ23.out; omega⟩, ⟨by repeat (first | (with_reducible first | exact HB.out | apply below_alloc | apply pw_below_drewN | apply below_drew1) | exact HB.out)⟩⟩
      ·rw [if_neg c11] at H
       have c11b0 : decide (x5_2 ≤ (a0.size : Int)) = false := decide_eq_false c11
       clear c11
       by_cases c36 : x3_2 = true
       ·subst c36
        have H1 : (some 3) = some r := by rw [if_pos rfl] at H; exact H
        clear H
        have H := H1
        clear H1
        obtain rfl := Option.some.inj H
        go_wp2
        go_ret
        exact ⟨by first | rfl | (simp [bneNil]; done) | (simp [errW_none, errW_some] <;> rfl) | (simp [*, errW_none, errW_some] <;> rfl), by repeat (first | (with_reducible first | exact HB.out | apply below_alloc | apply pw_below_drewN | apply below_drew1) | exact HB.out)⟩
       ·replace c36 := Bool.eq_false_iff.mpr c36
        subst c36
        have H1 : (some 0) = some r := by rw [if_neg (show ¬ (false = true) by decide)] at H; exact H
        clear H
        have H := H1
        clear H1
        obtain rfl := Option.some.inj H
        go_wp2
        go_ret
        exact ⟨by first | rfl | (simp [bneNil]; done) | (simp [errW_none, errW_some] <;> rfl) | (simp [*, errW_none, errW_some] <;> rfl), by repeat (first | (with_reducible first | exact HB.out | apply below_alloc | apply pw_below_drewN | apply below_drew1) | exact HB.out)⟩

/-! ### postriderref04_plain: function 136 -/
def postriderref04_plain.f (a0 : Int) : Option (Bool) := if a0 ≥ 32 then (some (decide (a0 ≤ 126))) else (some false)
set_option maxHeartbeats 8000000 in
set_option maxRecDepth 100000 in
theorem postriderref04_plain.calls (a0 : Int) (r : Bool) (w : World) (h : postriderref04_plain.f a0 = some r) :
    Calls Tryz.prog 136 #[.int .u8 a0] w fun e w' => e = .returned (.bool r) ∧ Drawn0 w w' := by
  have H : (if a0 ≥ 32 then (some (decide (a0 ≤ 126))) else (some false)) = some r := h
  clear h
  by_cases c2 : a0 ≥ 32
  · rw [if_pos c2] at H
    have c2b0 : decide (32 ≤ a0) = true := decide_eq_true c2
    clear c2
    obtain rfl := Option.some.inj H
    go_enter Tryz.func136, Tryz.ntmps136
    go_wp2
    go_ret
    exact ⟨by first | rfl | (simp [bneNil]; done) | (simp; done) | (simp [*]; done), by repeat (first | exact Drawn0.refl _ | apply Drawn0.step)⟩
  · rw [if_neg c2] at H
    have c2b0 : decide (32 ≤ a0) = false := decide_eq_false c2
    clear c2
    obtain rfl := Option.some.inj H
    go_enter Tryz.func136, Tryz.ntmps136
    go_wp2
    go_ret
    exact ⟨by first | rfl | (simp [bneNil]; done) | (simp; done) | (simp [*]; done), by repeat (first | exact Drawn0.refl _ | apply Drawn0.step)⟩

end Go.Proofs.YtacjnapgdikhbaaGreatDoor.Q
end
