/- Walks of functions. -/
import Derived.Test.YtfeihligcondgaaDoorProg
import Derived.Below
import Derived.Deep.Draws
import Derived.Deep.AppendLies
import Derived.Maps.AppendAt
import Derived.OwnWalk
import Derived.Laws.BytesArg
import Derived.Laws.MakeOwn
import Derived.Laws.OwnMore
import Derived.Deep.OwnRows
import Derived.Tactics
import Derived.Lib.ConvBytes
import Derived.Laws.Slices
import Derived.WalkKit
import Derived.KernelRfl
import Derived.RowKit3
import Derived.Deep.LoopGhost
import Derived.Deep.QuietTactic
import Derived.BigQuiet
import Derived.WideLaws
import Derived.Deep.DeepCutAuto
import Derived.Deep.CutBlock
import Derived.Deep.RegionHeld3
import Derived.Laws.Rows
import Derived.Lib.AppendStr
import Derived.ArgAppend
import Derived.Laws.IdiomCopy
import Derived.OrdersHeld
import Derived.Laws.BitsLemmas
import Derived.RowKit
import Derived.Laws.RangeString
import Derived.Laws.RangeAny
import Derived.LoopTactic
import Derived.Lib.Hide
import Derived.IntWalk
import Derived.Test.YtfeihligcondgaaDoorG
import Derived.Test.YtfeihligcondgaaDoorBR
import Derived.Test.YtfeihligcondgaaDoorRS
import Derived.Test.YtfeihligcondgaaDoorOP
import Derived.Test.YtfeihligcondgaaDoorMP
import Derived.Test.YtfeihligcondgaaDoorKB
import Derived.Test.YtfeihligcondgaaDoorV
section
namespace Go.Proofs.YtfeihligcondgaaDoor.Q
open Go.RowKit Go.Proofs.YtfeihligcondgaaDoorW.PrintWords Go.Proofs.YtfeihligcondgaaDoorW.PrintLast Go.Proofs.YtfeihligcondgaaDoorW.PrintMore
attribute [local go_sem] max2_int min2_int max_two min_two max_three min_three max_four min_four   -- for this text's walks alone
set_option linter.unusedVariables false
set_option linter.unusedSimpArgs false



def errW : Option Int → Value
  | none => .nilIface
  | some c => .iface 0 (.int .i64 c)
theorem errW_none : errW none = .nilIface := rfl
theorem errW_some (c : Int) : errW (some c) = .iface 0 (.int .i64 c) := rfl

theorem info5 : (Tryd.prog.info? 5).map (fun i => (i.zero, i.size, i.bytes)) = some (some (.int .u8 0), 1, 1) := by kernel_rfl
theorem info9 : (Tryd.prog.info? 9).map (fun i => (i.zero, i.size, i.bytes)) = some (some (.string ⟨#[]⟩), 1, 16) := by kernel_rfl
-- the values' own types

end Go.Proofs.YtfeihligcondgaaDoor.Q
end
section
namespace Go.Proofs.YtfeihligcondgaaDoor.Q
open Go.RowKit Go.Proofs.YtfeihligcondgaaDoorW.PrintWords Go.Proofs.YtfeihligcondgaaDoorW.PrintLast Go.Proofs.YtfeihligcondgaaDoorW.PrintMore
attribute [local go_sem] max2_int min2_int max_two min_two max_three min_three max_four min_four   -- for this text's walks alone
set_option linter.unusedVariables false
set_option linter.unusedSimpArgs false

/-! ### text_plain: function 45 -/
def text_plain.f (a0 : Int) : Option (Bool) := if a0 ≥ 32 then (some (decide (a0 ≤ 126))) else (some false)
set_option maxHeartbeats 8000000 in
set_option maxRecDepth 100000 in
theorem text_plain.calls (a0 : Int) (r : Bool) (w : World) (h : text_plain.f a0 = some r) :
    Calls Tryd.prog 45 #[.int .u8 a0] w fun e w' => e = .returned (.bool r) ∧ Drawn0 w w' := by
  have H : (if a0 ≥ 32 then (some (decide (a0 ≤ 126))) else (some false)) = some r := h
  clear h
  by_cases c2 : a0 ≥ 32
  · rw [if_pos c2] at H
    have c2b0 : decide (32 ≤ a0) = true := decide_eq_true c2
    clear c2
    obtain rfl := Option.some.inj H
    go_enter Tryd.func45, Tryd.ntmps45
    go_wp2
    go_ret
    exact ⟨by first | rfl | (simp [bneNil]; done) | (simp; done) | (simp [*]; done), by repeat (first | exact Drawn0.refl _ | apply Drawn0.step)⟩
  · rw [if_neg c2] at H
    have c2b0 : decide (32 ≤ a0) = false := decide_eq_false c2
    clear c2
    obtain rfl := Option.some.inj H
    go_enter Tryd.func45, Tryd.ntmps45
    go_wp2
    go_ret
    exact ⟨by first | rfl | (simp [bneNil]; done) | (simp; done) | (simp [*]; done), by repeat (first | exact Drawn0.refl _ | apply Drawn0.step)⟩

/-! ### text_pair: function 44 -/
def text_pair.f (a0 : ByteArray) (a1 : Int) : Option (Int × Int) := if (wrap64 (a1 + 1)) ≥ (a0.size : Int) then (some (0, 4)) else (if 0 ≤ (wrap64 (a1 + 1)) then (if (wrap64 (a1 + 1)) < (a0.size : Int) then ((text_plain.f (bt a0 (wrap64 (a1 + 1)))).bind fun t101 => (if t101 = true then (some (bt a0 (wrap64 (a1 + 1)), 0)) else (some (0, 5)))) else (none)) else (none))
set_option maxHeartbeats 8000000 in
set_option maxRecDepth 100000 in
theorem text_pair.calls (a0 : ByteArray) (a1 : Int) (r1 : Int) (r2 : Int) (w : World) (h : text_pair.f a0 a1 = some (r1, r2)) :
    Calls Tryd.prog 44 #[.string a0, .int .i64 a1] w fun e w' => e = .returned (.tuple #[.int .u8 r1, .int .i64 r2]) ∧ Drawn0 w w' := by
  have H : (if (wrap64 (a1 + 1)) ≥ (a0.size : Int) then (some (0, 4)) else (if 0 ≤ (wrap64 (a1 + 1)) then (if (wrap64 (a1 + 1)) < (a0.size : Int) then ((text_plain.f (bt a0 (wrap64 (a1 + 1)))).bind fun t101 => (if t101 = true then (some (bt a0 (wrap64 (a1 + 1)), 0)) else (some (0, 5)))) else (none)) else (none))) = some (r1, r2) := h
  clear h
  by_cases c3 : (wrap64 (a1 + 1)) ≥ (a0.size : Int)
  · rw [if_pos c3] at H
    have c3b0 : decide ((a0.size : Int) ≤ (wrap64 (a1 + 1))) = true := decide_eq_true c3
    clear c3
    simp only [Option.some.injEq, Prod.mk.injEq] at H
    obtain ⟨rfl, rfl⟩ := H
    go_enter Tryd.func44, Tryd.ntmps44
    go_wp2
    go_ret2
    exact ⟨by first | rfl | (simp [bneNil]; done) | (simp; done) | (simp [*]; done), by repeat (first | exact Drawn0.refl _ | apply Drawn0.step)⟩
  · rw [if_neg c3] at H
    have c3b0 : decide ((a0.size : Int) ≤ (wrap64 (a1 + 1))) = false := decide_eq_false c3
    clear c3
    obtain ⟨ji4, hji4⟩ : ∃ j_ : Int, (wrap64 (a1 + 1)) = j_ := ⟨_, rfl⟩
    replace H : (if 0 ≤ (ji4) then (if (ji4) < (a0.size : Int) then ((text_plain.f (bt a0 (ji4))).bind fun t101 => (if t101 = true then (some (bt a0 (ji4), 0)) else (some (0, 5)))) else (none)) else (none)) = some (r1, r2) := by first | (rw [hji4] at H; exact H) | (simp only [hji4] at H ⊢; exact H)
    (try rw [hji4] at c3b0)
    have hji4w : (IntKind.i64.wrap (a1 + 1)) = ji4 := (i64_w _).trans hji4
    by_cases c5 : 0 ≤ (ji4)
    · rw [if_pos c5] at H
      have c5b0 : decide (0 ≤ (ji4)) = true := decide_eq_true c5
      clear c5
      by_cases c6 : (ji4) < (a0.size : Int)
      · rw [if_pos c6] at H
        have c6b0 : decide ((ji4) < (a0.size : Int)) = true := decide_eq_true c6
        clear c6
        replace H := Option.bind_eq_some_iff.mp H
        obtain ⟨t101, A80, H⟩ := H
        replace H : (if t101 = true then (some (bt a0 (ji4), 0)) else (some (0, 5))) = some (r1, r2) := H
        have A8 := Aside0.mk A80
        clear A80
        by_cases c9 : t101 = true
        · subst c9
          have H1 : (some (bt a0 (ji4), 0)) = some (r1, r2) := by rw [if_pos rfl] at H; exact H
          clear H
          have H := H1
          clear H1
          simp only [Option.some.injEq, Prod.mk.injEq] at H
          obtain ⟨rfl, rfl⟩ := H
          have p7 : 0 ≤ ((ji4) : Int) := of_decide_eq_true (by first | (with_reducible assumption) | assumption)
          have q7 : (ji4) < (a0.size : Int) := of_decide_eq_true (by first | (with_reducible assumption) | assumption)
          have hx7 := bt_at a0 (ji4)
          replace p7 := eq_true p7
          replace q7 := eq_true q7
          go_enter Tryd.func44, Tryd.ntmps44
          go_wp2_with (first | ((with_reducible refine gate_callee (f := 45) rfl ?_); refine goesL_ (some 17) rfl rfl Tryd.func45 (by kernel_rfl) rfl #[.int .u8 (bt a0 (ji4))] rfl (by (try simp only [List.map_toArray, List.map_cons, List.map_nil]); first | done | (simp only [hji4]; rfl) | rfl | (simp only [List.length_drop, List.length_take]; rfl)) ?_; (with_reducible refine (text_plain.calls (bt a0 (ji4)) true _ A8.out).mono ?_); rintro e w' ⟨rfl, ⟨nd, rfl⟩⟩; refine ⟨_, rfl, ?_⟩; have p10 : 0 ≤ ((ji4) : Int) := of_decide_eq_true (by first | (with_reducible assumption) | assumption); have q10 : (ji4) < (a0.size : Int) := of_decide_eq_true (by first | (with_reducible assumption) | assumption); have hx10 := bt_at a0 (ji4); replace p10 := eq_true p10; replace q10 := eq_true q10))
          go_ret2
          exact ⟨by first | rfl | (simp [bneNil]; done) | (simp; done) | (simp only [← hji4] <;> (first | rfl | simp)) | (simp [*]; done), by repeat (first | exact Drawn0.refl _ | apply Drawn0.step)⟩
        · replace c9 := Bool.eq_false_iff.mpr c9
          subst c9
          have H1 : (some (0, 5)) = some (r1, r2) := by rw [if_neg (show ¬ (false = true) by decide)] at H; exact H
          clear H
          have H := H1
          clear H1
          simp only [Option.some.injEq, Prod.mk.injEq] at H
          obtain ⟨rfl, rfl⟩ := H
          have p7 : 0 ≤ ((ji4) : Int) := of_decide_eq_true (by first | (with_reducible assumption) | assumption)
          have q7 : (ji4) < (a0.size : Int) := of_decide_eq_true (by first | (with_reducible assumption) | assumption)
          have hx7 := bt_at a0 (ji4)
          replace p7 := eq_true p7
          replace q7 := eq_true q7
          go_enter Tryd.func44, Tryd.ntmps44
          go_wp2_with (first | ((with_reducible refine gate_callee (f := 45) rfl ?_); refine goesL_ (some 17) rfl rfl Tryd.func45 (by kernel_rfl) rfl #[.int .u8 (bt a0 (ji4))] rfl (by (try simp only [List.map_toArray, List.map_cons, List.map_nil]); first | done | (simp only [hji4]; rfl) | rfl | (simp only [List.length_drop, List.length_take]; rfl)) ?_; (with_reducible refine (text_plain.calls (bt a0 (ji4)) false _ A8.out).mono ?_); rintro e w' ⟨rfl, ⟨nd, rfl⟩⟩; refine ⟨_, rfl, ?_⟩))
          go_ret2
          exact ⟨by first | rfl | (simp [bneNil]; done) | (simp; done) | (simp only [← hji4] <;> (first | rfl | simp)) | (simp [*]; done), by repeat (first | exact Drawn0.refl _ | apply Drawn0.step)⟩
      · rw [if_neg c6] at H
        exact absurd H (by simp)
    · rw [if_neg c5] at H
      exact absurd H (by simp)

/-! ### text_Comment: function 12 -/
mutual
def text_Comment.j0 : Nat → ByteArray → Bool → Option (Int × Int)
 | 0, _, _ => none
 | k + 1, x0, x13 => if x13 = true then (some (0, 5)) else (text_Comment.l0 k x0 0 0)
def text_Comment.l0 : Nat → ByteArray → Int → Int → Option (Int × Int)
 | 0, _, _, _ => none
 | k + 1, x0, x4, x5 => if x5 < (x0.size : Int) then (if 0 ≤ x5 then (if (bt x0 x5) = 40 then (if (wrap64 (x4 + 1)) > 8 then (some (0, 3)) else (text_Comment.l0 k x0 (wrap64 (x4 + 1)) (wrap64 (x5 + 1)))) else (if (bt x0 x5) = 41 then (if (wrap64 (x4 - 1)) = 0 then (some (wrap64 (x5 + 1), 0)) else (text_Comment.l0 k x0 (wrap64 (x4 - 1)) (wrap64 (x5 + 1)))) else (if (bt x0 x5) = 92 then ((text_pair.f x0 x5).bind fun bt102 => (if bt102.2 = 0 then (text_Comment.l0 k x0 x4 (wrap64 ((wrap64 (x5 + 1)) + 1))) else (some (0, bt102.2)))) else (if (bt x0 x5) = 9 then (text_Comment.l0 k x0 x4 (wrap64 (x5 + 1))) else ((text_plain.f (bt x0 x5)).bind fun t104 => (if t104 = true then (text_Comment.l0 k x0 x4 (wrap64 (x5 + 1))) else (some (0, 5)))))))) else (none)) else (some (0, 4))
end
def text_Comment.f (k : Nat) (a0 : ByteArray) : Option (Int × Int) := if a0.toList = ([] : List UInt8) then (text_Comment.j0 k a0 true) else (if 0 < (a0.size : Int) then (text_Comment.j0 k a0 ((bt a0 0) != 40)) else (none))
theorem text_Comment.mono_l : ∀ k, (∀ y0 y1, LeO (text_Comment.j0 k y0 y1) (text_Comment.j0 (k + 1) y0 y1)) ∧ (∀ y0 y1 y2, LeO (text_Comment.l0 k y0 y1 y2) (text_Comment.l0 (k + 1) y0 y1 y2))
 | 0 => ⟨fun _ _ r h => by simp [text_Comment.j0] at h, fun _ _ _ r h => by simp [text_Comment.l0] at h⟩
 | k + 1 => by
  obtain ⟨ih0, ih1⟩ := text_Comment.mono_l k
  refine ⟨?_, ?_⟩
  ·intro y0 y1
   unfold text_Comment.j0
   repeat' first
   | (with_reducible exact ih0 _ _)
   | (with_reducible exact ih1 _ _ _)
   | (with_reducible exact LeO.refl _)
   | (with_reducible exact LeO.none _)
   | (with_reducible refine LeO.ite ?_ ?_)
   | (with_reducible refine LeO.bind ?_ (fun _ => ?_))
   | exact ih0 _ _
   | exact ih1 _ _ _
   | exact LeO.none _
   | refine LeO.ite ?_ ?_
   | refine LeO.bind ?_ (fun _ => ?_)
  ·intro y0 y1 y2
   unfold text_Comment.l0
   repeat' first
   | (with_reducible exact ih0 _ _)
   | (with_reducible exact ih1 _ _ _)
   | (with_reducible exact LeO.refl _)
   | (with_reducible exact LeO.none _)
   | (with_reducible refine LeO.ite ?_ ?_)
   | (with_reducible refine LeO.bind ?_ (fun _ => ?_))
   | exact ih0 _ _
   | exact ih1 _ _ _
   | exact LeO.none _
   | refine LeO.ite ?_ ?_
   | refine LeO.bind ?_ (fun _ => ?_)
theorem text_Comment.mono : ∀ a0 k, LeO (text_Comment.f k a0) (text_Comment.f (k + 1) a0) := by
 intro a0 k
 obtain ⟨ih0, ih1⟩ := text_Comment.mono_l k
 unfold text_Comment.f
 repeat' first
   | (with_reducible exact ih0 _ _)
   | (with_reducible exact ih1 _ _ _)
   | (with_reducible exact LeO.refl _)
   | (with_reducible exact LeO.none _)
   | (with_reducible refine LeO.ite ?_ ?_)
   | (with_reducible refine LeO.bind ?_ (fun _ => ?_))
   | exact ih0 _ _
   | exact ih1 _ _ _
   | exact LeO.none _
   | refine LeO.ite ?_ ?_
   | refine LeO.bind ?_ (fun _ => ?_)
set_option maxHeartbeats 8000000 in
set_option maxRecDepth 100000 in
theorem text_Comment.calls (k : Nat) (a0 : ByteArray) (r1 : Int) (r2 : Int) (w : World) (h : text_Comment.f k a0 = some (r1, r2)) :
  Calls Tryd.prog 12 #[.string a0] w fun e w' => e = .returned (.tuple #[.int .i64 r1, .int .i64 r2]) ∧ Drawn0 w w' := by
 have H : (if a0.toList = ([] : List UInt8) then (text_Comment.j0 k a0 true) else (if 0 < (a0.size : Int) then (text_Comment.j0 k a0 ((bt a0 0) != 40)) else (none))) = some (r1, r2) := h
 clear h
 have HC2 := Aside0.mk H
 clear H
 go_enter Tryd.func12, Tryd.ntmps12
 go_upto_region 1 with (fail)
 go_cut [13] (fun v13 wc => ∃ (kq : Nat) (x13_1 : Bool), v13 = .bool x13_1 ∧ Aside0 (text_Comment.j0 kq a0 x13_1 = some (r1, r2)) ∧ Aside0 (kq ≤ k) ∧ Drawn0 w wc)
 case first =>
  have H := HC2.out
  clear HC2
  by_cases c3 : a0.toList = ([] : List UInt8)
  ·rw [if_pos c3] at H
   have c3b0 : (a0.toList == ([] : List UInt8)) = true := beq_iff_eq.mpr c3
   have c3b1 : (a0.toList != ([] : List UInt8)) = false := bne_eq_false_iff_eq.mpr c3
   clear c3
   (first | rw [c3b0] | (simp only [i64_w, i32_w]; rw [c3b0]) | skip)
   have H' := Aside0.mk H
   clear H
   go_wp2
   go_meet
   case rel => exact ⟨_, (true), (by first | rfl | (simp; done) | (simp [*]; done)), H', ⟨by first | omega | exact Nat.le_refl _⟩, by repeat (first | exact Drawn0.refl _ | apply Drawn0.step)⟩
  ·rw [if_neg c3] at H
   have c3b0 : (a0.toList == ([] : List UInt8)) = false := beq_eq_false_iff_ne.mpr c3
   have c3b1 : (a0.toList != ([] : List UInt8)) = true := bne_iff_ne.mpr c3
   (first | rw [c3b0] | (simp only [i64_w, i32_w]; rw [c3b0]) | skip)
   by_cases c4 : 0 < (a0.size : Int)
   ·rw [if_pos c4] at H
    have c4b0 : decide (0 < (a0.size : Int)) = true := decide_eq_true c4
    have c4b1 : decide (0 < a0.size) = true := decide_eq_true (by omega)
    clear c4
    have H' := Aside0.mk H
    clear H
    have p5 : 0 ≤ (0 : Int) := (by omega)
    have q5 : 0 < a0.size := (by have : (0 : Int) < (a0.size : Int) := od; omega)
    have hx5 : ∀ h : 0 < a0.size, ((a0[0]'h).toNat : Int) = bt a0 0 := bt_at a0 0
    clear p5
    have qi5 : (0 < (a0.size : Int)) = True := eq_true (od)
    replace q5 := eq_true q5
    go_wp2
    go_meet
    case rel => exact ⟨_, (((bt a0 0) != 40)), (by first | rfl | (simp; done) | (simp [*]; done)), H', ⟨by first | omega | exact Nat.le_refl _⟩, by repeat (first | exact Drawn0.refl _ | apply Drawn0.step)⟩
   ·rw [if_neg c4] at H
    exact absurd H (by simp)
 case rest =>
  clear HC2
  try clear c1
  try clear p2
  try clear c3
  try clear c3b0
  try clear c3b1
  try clear c4
  try clear c4b0
  try clear c4b1
  try clear p5
  try clear q5
  try clear hx5
  try clear qi5
  try clear p5
  try clear q5
  obtain ⟨kq, x13_1, rfl, HA, HJ1, ⟨mc1, rfl⟩⟩ := hcut
  cases kq with
  | zero => exact absurd HA.out (by simp [text_Comment.j0])
  | succ kj1 =>
   have H := HA.out
   clear HA
   simp only [text_Comment.j0] at H
   by_cases c6 : x13_1 = true
   ·subst c6
    have H1 : (some (0, 5)) = some (r1, r2) := by rw [if_pos rfl] at H; exact H
    clear H
    have H := H1
    clear H1
    simp only [Option.some.injEq, Prod.mk.injEq] at H
    obtain ⟨rfl, rfl⟩ := H
    go_wp2
    go_ret2
    exact ⟨by first | rfl | (simp [bneNil]; done) | (simp; done) | (simp [*]; done), by repeat (first | exact Drawn0.refl _ | apply Drawn0.step)⟩
   ·replace c6 := Bool.eq_false_iff.mpr c6
    subst c6
    have H1 : (text_Comment.l0 kj1 a0 0 0) = some (r1, r2) := by rw [if_neg (show ¬ (false = true) by decide)] at H; exact H
    clear H
    have H := H1
    clear H1
    have H' := Aside0.mk H
    clear H
    go_wp2
    go_loopg [4, 5] kj1 (fun kq v4 v5 w' => ∃ (x4_2 : Int) (x5_2 : Int), v4 = .int .i64 x4_2 ∧ v5 = .int .i64 x5_2 ∧ Aside0 (text_Comment.l0 kq a0 x4_2 x5_2 = some (r1, r2)) ∧ Aside0 (kq ≤ kj1) ∧ Drawn0 w w')
    case atStart => exact ⟨(0), (0), (by first | rfl | (simp; done) | (simp [*]; done)), (by first | rfl | (simp; done) | (simp [*]; done)), H', ⟨Nat.le_refl _⟩, by repeat (first | exact Drawn0.refl _ | apply Drawn0.step)⟩
    case round =>
     clear H'
     try clear c1
     try clear p2
     try clear c3
     try clear c3b0
     try clear c3b1
     try clear c4
     try clear c4b0
     try clear c4b1
     try clear p5
     try clear q5
     try clear hx5
     try clear qi5
     try clear c6
     try clear p2
     try clear p5
     try clear q5
     obtain ⟨x4_2, x5_2, rfl, rfl, HA, HK2, ⟨m2, rfl⟩⟩ := hrel
     cases gk with
     | zero => exact absurd HA.out (by simp [text_Comment.l0])
     | succ k2 =>
      have H := HA.out
      clear HA
      simp only [text_Comment.l0] at H
      by_cases c7 : x5_2 < (a0.size : Int)
      ·rw [if_pos c7] at H
       have c7b0 : decide (x5_2 < (a0.size : Int)) = true := decide_eq_true c7
       clear c7
       by_cases c8 : 0 ≤ x5_2
       ·rw [if_pos c8] at H
        have c8b0 : decide (0 ≤ x5_2) = true := decide_eq_true c8
        clear c8
        by_cases c10 : (bt a0 x5_2) = 40
        ·rw [if_pos c10] at H
         have c10b0 : ((bt a0 x5_2) == 40) = true := beq_iff_eq.mpr c10
         have c10b1 : ((bt a0 x5_2) != 40) = false := bne_eq_false_iff_eq.mpr c10
         clear c10
         by_cases c11 : (wrap64 (x4_2 + 1)) > 8
         ·rw [if_pos c11] at H
          have c11b0 : decide (8 < (wrap64 (x4_2 + 1))) = true := decide_eq_true c11
          clear c11
          simp only [Option.some.injEq, Prod.mk.injEq] at H
          obtain ⟨rfl, rfl⟩ := H
          have p9 : 0 ≤ (x5_2 : Int) := od
          have q9 : x5_2 < (a0.size : Int) := od
          have hx9 := bt_at a0 x5_2
          replace p9 := eq_true p9
          replace q9 := eq_true q9
          go_wp2
          go_ret2
          exact ⟨by first | rfl | (simp [bneNil]; done) | (simp; done) | (simp [*]; done), by repeat (first | exact Drawn0.refl _ | apply Drawn0.step)⟩
         ·rw [if_neg c11] at H
          have c11b0 : decide (8 < (wrap64 (x4_2 + 1))) = false := decide_eq_false c11
          clear c11
          have H' := Aside0.mk H
          clear H
          have p9 : 0 ≤ (x5_2 : Int) := od
          have q9 : x5_2 < (a0.size : Int) := od
          have hx9 := bt_at a0 x5_2
          replace p9 := eq_true p9
          replace q9 := eq_true q9
          go_wp2
          go_roundg k2
          case measure => have := HJ1.out; have := HK2.out; omega
          case rel => exact ⟨(wrap64 (x4_2 + 1)), (wrap64 (x5_2 + 1)), (by first | rfl | (simp; done) | (simp [*]; done)), (by first | rfl | (simp; done) | (simp [*]; done)), H', ⟨by have := HJ1.out; have := HK2.out; omega⟩, by repeat (first | exact Drawn0.refl _ | apply Drawn0.step)⟩
        ·rw [if_neg c10] at H
         have c10b0 : ((bt a0 x5_2) == 40) = false := beq_eq_false_iff_ne.mpr c10
         have c10b1 : ((bt a0 x5_2) != 40) = true := bne_iff_ne.mpr c10
         by_cases c12 : (bt a0 x5_2) = 41
         ·rw [if_pos c12] at H
          have c12b0 : ((bt a0 x5_2) == 41) = true := beq_iff_eq.mpr c12
          have c12b1 : ((bt a0 x5_2) != 41) = false := bne_eq_false_iff_eq.mpr c12
          clear c12
          by_cases c13 : (wrap64 (x4_2 - 1)) = 0
          ·rw [if_pos c13] at H
           have c13b0 : ((wrap64 (x4_2 - 1)) == 0) = true := beq_iff_eq.mpr c13
           have c13b1 : ((wrap64 (x4_2 - 1)) != 0) = false := bne_eq_false_iff_eq.mpr c13
           clear c13
           simp only [Option.some.injEq, Prod.mk.injEq] at H
           obtain ⟨rfl, rfl⟩ := H
           have p9 : 0 ≤ (x5_2 : Int) := od
           have q9 : x5_2 < (a0.size : Int) := od
           have hx9 := bt_at a0 x5_2
           replace p9 := eq_true p9
           replace q9 := eq_true q9
           go_wp2
           go_ret2
           exact ⟨by first | rfl | (simp [bneNil]; done) | (simp; done) | (simp [*]; done), by repeat (first | exact Drawn0.refl _ | apply Drawn0.step)⟩
          ·rw [if_neg c13] at H
           have c13b0 : ((wrap64 (x4_2 - 1)) == 0) = false := beq_eq_false_iff_ne.mpr c13
           have c13b1 : ((wrap64 (x4_2 - 1)) != 0) = true := bne_iff_ne.mpr c13
           have H' := Aside0.mk H
           clear H
           have p9 : 0 ≤ (x5_2 : Int) := od
           have q9 : x5_2 < (a0.size : Int) := od
           have hx9 := bt_at a0 x5_2
           replace p9 := eq_true p9
           replace q9 := eq_true q9
           go_wp2
           go_roundg k2
           case measure => have := HJ1.out; have := HK2.out; omega
           case rel => exact ⟨(wrap64 (x4_2 - 1)), (wrap64 (x5_2 + 1)), (by first | rfl | (simp; done) | (simp [*]; done)), (by first | rfl | (simp; done) | (simp [*]; done)), H', ⟨by have := HJ1.out; have := HK2.out; omega⟩, by repeat (first | exact Drawn0.refl _ | apply Drawn0.step)⟩
         ·rw [if_neg c12] at H
          have c12b0 : ((bt a0 x5_2) == 41) = false := beq_eq_false_iff_ne.mpr c12
          have c12b1 : ((bt a0 x5_2) != 41) = true := bne_iff_ne.mpr c12
          by_cases c14 : (bt a0 x5_2) = 92
          ·rw [if_pos c14] at H
           have c14b0 : ((bt a0 x5_2) == 92) = true := beq_iff_eq.mpr c14
           have c14b1 : ((bt a0 x5_2) != 92) = false := bne_eq_false_iff_eq.mpr c14
           clear c14
           replace H := Option.bind_eq_some_iff.mp H
           obtain ⟨⟨t102, t103⟩, A150, H⟩ := H
           replace H : (if t103 = 0 then (text_Comment.l0 k2 a0 x4_2 (wrap64 ((wrap64 (x5_2 + 1)) + 1))) else (some (0, t103))) = some (r1, r2) := H
           have A15 := Aside0.mk A150
           clear A150
           by_cases c16 : t103 = 0
           ·rw [if_pos c16] at H
            have c16b0 : (t103 == 0) = true := beq_iff_eq.mpr c16
            have c16b1 : (t103 != 0) = false := bne_eq_false_iff_eq.mpr c16
            clear c16
            have H' := Aside0.mk H
            clear H
            have p9 : 0 ≤ (x5_2 : Int) := od
            have q9 : x5_2 < (a0.size : Int) := od
            have hx9 := bt_at a0 x5_2
            replace p9 := eq_true p9
            replace q9 := eq_true q9
            go_wp2_with (first | ((with_reducible refine gate_callee (f := 44) rfl ?_); refine goesL_ (some 45) rfl rfl Tryd.func44 (by kernel_rfl) rfl #[.string a0, .int .i64 x5_2] rfl ml ?_; (with_reducible refine (text_pair.calls a0 x5_2 t102 t103 _ A15.out).mono ?_); rintro e w' ⟨rfl, ⟨nd, rfl⟩⟩; refine ⟨_, rfl, ?_⟩))
            go_roundg k2
            case measure => have := HJ1.out; have := HK2.out; omega
            case rel => exact ⟨(x4_2), (wrap64 ((wrap64 (x5_2 + 1)) + 1)), (by first | rfl | (simp; done) | (simp [*]; done)), (by first | rfl | (simp; done) | (simp [*]; done)), H', ⟨by have := HJ1.out; have := HK2.out; omega⟩, by repeat (first | exact Drawn0.refl _ | apply Drawn0.step)⟩
           ·rw [if_neg c16] at H
            have c16b0 : (t103 == 0) = false := beq_eq_false_iff_ne.mpr c16
            have c16b1 : (t103 != 0) = true := bne_iff_ne.mpr c16
            simp only [Option.some.injEq, Prod.mk.injEq] at H
            obtain ⟨rfl, rfl⟩ := H
            have p9 : 0 ≤ (x5_2 : Int) := od
            have q9 : x5_2 < (a0.size : Int) := od
            have hx9 := bt_at a0 x5_2
            replace p9 := eq_true p9
            replace q9 := eq_true q9
            go_wp2_with (first | ((with_reducible refine gate_callee (f := 44) rfl ?_); refine goesL_ (some 45) rfl rfl Tryd.func44 (by kernel_rfl) rfl #[.string a0, .int .i64 x5_2] rfl ml ?_; (with_reducible refine (text_pair.calls a0 x5_2 t102 t103 _ A15.out).mono ?_); rintro e w' ⟨rfl, ⟨nd, rfl⟩⟩; refine ⟨_, rfl, ?_⟩))
            go_ret2
            exact ⟨by first | rfl | (simp [bneNil]; done) | (simp; done) | (simp [*]; done), by repeat (first | exact Drawn0.refl _ | apply Drawn0.step)⟩
          ·rw [if_neg c14] at H
           have c14b0 : ((bt a0 x5_2) == 92) = false := beq_eq_false_iff_ne.mpr c14
           have c14b1 : ((bt a0 x5_2) != 92) = true := bne_iff_ne.mpr c14
           by_cases c17 : (bt a0 x5_2) = 9
           ·rw [if_pos c17] at H
            have c17b0 : ((bt a0 x5_2) == 9) = true := beq_iff_eq.mpr c17
            have c17b1 : ((bt a0 x5_2) != 9) = false := bne_eq_false_iff_eq.mpr c17
            clear c17
            have H' := Aside0.mk H
            clear H
            have p9 : 0 ≤ (x5_2 : Int) := od
            have q9 : x5_2 < (a0.size : Int) := od
            have hx9 := bt_at a0 x5_2
            replace p9 := eq_true p9
            replace q9 := eq_true q9
            go_wp2
            go_roundg k2
            case measure => have := HJ1.out; have := HK2.out; omega
            case rel => exact ⟨(x4_2), (wrap64 (x5_2 + 1)), (by first | rfl | (simp; done) | (simp [*]; done)), (by first | rfl | (simp; done) | (simp [*]; done)), H', ⟨by have := HJ1.out; have := HK2.out; omega⟩, by repeat (first | exact Drawn0.refl _ | apply Drawn0.step)⟩
           ·rw [if_neg c17] at H
            have c17b0 : ((bt a0 x5_2) == 9) = false := beq_eq_false_iff_ne.mpr c17
            have c17b1 : ((bt a0 x5_2) != 9) = true := bne_iff_ne.mpr c17
            replace H := Option.bind_eq_some_iff.mp H
            obtain ⟨t104, A180, H⟩ := H
            replace H : (if t104 = true then (text_Comment.l0 k2 a0 x4_2 (wrap64 (x5_2 + 1))) else (some (0, 5))) = some (r1, r2) := H
            have A18 := Aside0.mk A180
            clear A180
            by_cases c19 : t104 = true
            ·subst c19
             have H1 : (text_Comment.l0 k2 a0 x4_2 (wrap64 (x5_2 + 1))) = some (r1, r2) := by rw [if_pos rfl] at H; exact H
             clear H
             have H := H1
             clear H1
             have H' := Aside0.mk H
             clear H
             have p9 : 0 ≤ (x5_2 : Int) := od
             have q9 : x5_2 < (a0.size : Int) := od
             have hx9 := bt_at a0 x5_2
             replace p9 := eq_true p9
             replace q9 := eq_true q9
             go_wp2_with (first | (go_at_call 45; (with_reducible refine (text_plain.calls (bt a0 x5_2) true _ A18.out).mono ?_); rintro e w' ⟨rfl, ⟨nd, rfl⟩⟩))
             go_roundg k2
             case measure => have := HJ1.out; have := HK2.out; omega
             case rel => exact ⟨(x4_2), (wrap64 (x5_2 + 1)), (by first | rfl | (simp; done) | (simp [*]; done)), (by first | rfl | (simp; done) | (simp [*]; done)), H', ⟨by have := HJ1.out; have := HK2.out; omega⟩, by repeat (first | exact Drawn0.refl _ | apply Drawn0.step)⟩
            ·replace c19 := Bool.eq_false_iff.mpr c19
             subst c19
             have H1 : (some (0, 5)) = some (r1, r2) := by rw [if_neg (show ¬ (false = true) by decide)] at H; exact H
             clear H
             have H := H1
             clear H1
             simp only [Option.some.injEq, Prod.mk.injEq] at H
             obtain ⟨rfl, rfl⟩ := H
             have p9 : 0 ≤ (x5_2 : Int) := od
             have q9 : x5_2 < (a0.size : Int) := od
             have hx9 := bt_at a0 x5_2
             replace p9 := eq_true p9
             replace q9 := eq_true q9
             go_wp2_with (first | (go_at_call 45; (with_reducible refine (text_plain.calls (bt a0 x5_2) false _ A18.out).mono ?_); rintro e w' ⟨rfl, ⟨nd, rfl⟩⟩))
             go_ret2
             exact ⟨by first | rfl | (simp [bneNil]; done) | (simp; done) | (simp [*]; done), by repeat (first | exact Drawn0.refl _ | apply Drawn0.step)⟩
       ·rw [if_neg c8] at H
        exact absurd H (by simp)
      ·rw [if_neg c7] at H
       have c7b0 : decide (x5_2 < (a0.size : Int)) = false := decide_eq_false c7
       clear c7
       simp only [Option.some.injEq, Prod.mk.injEq] at H
       obtain ⟨rfl, rfl⟩ := H
       go_wp2
       go_ret2
       exact ⟨by first | rfl | (simp [bneNil]; done) | (simp; done) | (simp [*]; done), by repeat (first | exact Drawn0.refl _ | apply Drawn0.step)⟩

/-! ### text_Blank: function 10 -/
mutual
def text_Blank.l0 : Nat → ByteArray → Int → Option (Int × Int)
  | 0, _, _ => none
  | k + 1, x0, x2 => if x2 < (x0.size : Int) then (if 0 ≤ x2 then (if (bt x0 x2) = 32 then (text_Blank.j1 k x0 x2 (bt x0 x2) ((bt x0 x2) == 32)) else (text_Blank.j1 k x0 x2 (bt x0 x2) ((bt x0 x2) == 9))) else (none)) else (some (x2, 0))
def text_Blank.j1 : Nat → ByteArray → Int → Int → Bool → Option (Int × Int)
  | 0, _, _, _, _ => none
  | k + 1, x0, x2, x12, x14 => if x14 = true then (text_Blank.l0 k x0 (wrap64 (x2 + 1))) else (if x12 = 40 then (if 0 ≤ x2 then (if x2 ≤ (x0.size : Int) then ((text_Comment.f k (x0.extract (x2 : Int).toNat x0.size)).bind fun bt105 => (if bt105.2 = 0 then (text_Blank.l0 k x0 (wrap64 (x2 + bt105.1))) else (some (0, bt105.2)))) else (none)) else (none)) else (some (x2, 0)))
end
def text_Blank.f (k : Nat) (a0 : ByteArray) : Option (Int × Int) := text_Blank.l0 k a0 0
theorem text_Blank.mono_l : ∀ k, (∀ y0 y1, LeO (text_Blank.l0 k y0 y1) (text_Blank.l0 (k + 1) y0 y1)) ∧ (∀ y0 y1 y2 y3, LeO (text_Blank.j1 k y0 y1 y2 y3) (text_Blank.j1 (k + 1) y0 y1 y2 y3))
  | 0 => ⟨fun _ _ r h => by simp [text_Blank.l0] at h, fun _ _ _ _ r h => by simp [text_Blank.j1] at h⟩
  | k + 1 => by
    obtain ⟨ih0, ih1⟩ := text_Blank.mono_l k
    refine ⟨?_, ?_⟩
    · intro y0 y1
      unfold text_Blank.l0
      repeat' first
      | (with_reducible exact ih0 _ _)
      | (with_reducible exact ih1 _ _ _ _)
      | (with_reducible exact text_Comment.mono _ _)
      | (with_reducible exact LeO.refl _)
      | (with_reducible exact LeO.none _)
      | (with_reducible refine LeO.ite ?_ ?_)
      | (with_reducible refine LeO.bind ?_ (fun _ => ?_))
      | exact ih0 _ _
      | exact ih1 _ _ _ _
      | exact text_Comment.mono _ _
      | exact LeO.none _
      | refine LeO.ite ?_ ?_
      | refine LeO.bind ?_ (fun _ => ?_)
    · intro y0 y1 y2 y3
      unfold text_Blank.j1
      repeat' first
      | (with_reducible exact ih0 _ _)
      | (with_reducible exact ih1 _ _ _ _)
      | (with_reducible exact text_Comment.mono _ _)
      | (with_reducible exact LeO.refl _)
      | (with_reducible exact LeO.none _)
      | (with_reducible refine LeO.ite ?_ ?_)
      | (with_reducible refine LeO.bind ?_ (fun _ => ?_))
      | exact ih0 _ _
      | exact ih1 _ _ _ _
      | exact text_Comment.mono _ _
      | exact LeO.none _
      | refine LeO.ite ?_ ?_
      | refine LeO.bind ?_ (fun _ => ?_)
theorem text_Blank.mono : ∀ a0 k, LeO (text_Blank.f k a0) (text_Blank.f (k + 1) a0) := by
  intro a0 k
  obtain ⟨ih0, ih1⟩ := text_Blank.mono_l k
  unfold text_Blank.f
  repeat' first
      | (with_reducible exact ih0 _ _)
      | (with_reducible exact ih1 _ _ _ _)
      | (with_reducible exact text_Comment.mono _ _)
      | (with_reducible exact LeO.refl _)
      | (with_reducible exact LeO.none _)
      | (with_reducible refine LeO.ite ?_ ?_)
      | (with_reducible refine LeO.bind ?_ (fun _ => ?_))
      | exact ih0 _ _
      | exact ih1 _ _ _ _
      | exact text_Comment.mono _ _
      | exact LeO.none _
      | refine LeO.ite ?_ ?_
      | refine LeO.bind ?_ (fun _ => ?_)
set_option maxHeartbeats 8000000 in
set_option maxRecDepth 100000 in
theorem text_Blank.calls (k : Nat) (a0 : ByteArray) (r1 : Int) (r2 : Int) (w : World) (h : text_Blank.f k a0 = some (r1, r2)) :
    Calls Tryd.prog 10 #[.string a0] w fun e w' => e = .returned (.tuple #[.int .i64 r1, .int .i64 r2]) ∧ Drawn0 w w' := by
  have H : (text_Blank.l0 k a0 0) = some (r1, r2) := h
  clear h
  have H' := Aside0.mk H
  clear H
  go_enter Tryd.func10, Tryd.ntmps10
  go_wp2
  go_loopg [2] k (fun kq v2 w' => ∃ (x2_1 : Int), v2 = .int .i64 x2_1 ∧ Aside0 (text_Blank.l0 kq a0 x2_1 = some (r1, r2)) ∧ Aside0 (kq ≤ k) ∧ Drawn0 w w')
  case atStart => exact ⟨(0), (by first | rfl | (simp; done) | (simp [*]; done)), H', ⟨Nat.le_refl _⟩, by repeat (first | exact Drawn0.refl _ | apply Drawn0.step)⟩
  case round =>
    clear H'
    try clear c1
    obtain ⟨x2_1, rfl, HA, HK1, ⟨m1, rfl⟩⟩ := hrel
    cases gk with
    | zero => exact absurd HA.out (by simp [text_Blank.l0])
    | succ k1 =>
      have H := HA.out
      clear HA
      simp only [text_Blank.l0] at H
      by_cases c2 : x2_1 < (a0.size : Int)
      · rw [if_pos c2] at H
        have c2b0 : decide (x2_1 < (a0.size : Int)) = true := decide_eq_true c2
        clear c2
        by_cases c3 : 0 ≤ x2_1
        · rw [if_pos c3] at H
          have c3b0 : decide (0 ≤ x2_1) = true := decide_eq_true c3
          clear c3
          have HC5 := Aside0.mk H
          clear H
          have p4 : 0 ≤ (x2_1 : Int) := of_decide_eq_true (by first | (with_reducible assumption) | assumption)
          have q4 : x2_1 < (a0.size : Int) := of_decide_eq_true (by first | (with_reducible assumption) | assumption)
          have hx4 := bt_at a0 x2_1
          replace p4 := eq_true p4
          replace q4 := eq_true q4
          go_upto_if 14 with (fail)
          go_cut [14] (fun v14 wc => ∃ (kq : Nat) (x14_4 : Bool), v14 = .bool x14_4 ∧ Aside0 (text_Blank.j1 kq a0 x2_1 (bt a0 x2_1) x14_4 = some (r1, r2)) ∧ Aside0 (kq ≤ k1) ∧ Drawn0 w wc)
          case first =>
            have H := HC5.out
            clear HC5
            by_cases c6 : (bt a0 x2_1) = 32
            · rw [if_pos c6] at H
              have c6b0 : ((bt a0 x2_1) == 32) = true := beq_iff_eq.mpr c6
              have c6b1 : ((bt a0 x2_1) != 32) = false := bne_eq_false_iff_eq.mpr c6
              clear c6
              (first | rw [c6b0] | (simp only [i64_w, i32_w]; rw [c6b0]) | skip)
              have H' := Aside0.mk H
              clear H
              go_wp2
              go_meet
              case rel => exact ⟨_, (((bt a0 x2_1) == 32)), (by first | rfl | (simp; done) | (simp [*]; done)), H', ⟨by have := HK1.out; first | omega | exact Nat.le_refl _⟩, by repeat (first | exact Drawn0.refl _ | apply Drawn0.step)⟩
            · rw [if_neg c6] at H
              have c6b0 : ((bt a0 x2_1) == 32) = false := beq_eq_false_iff_ne.mpr c6
              have c6b1 : ((bt a0 x2_1) != 32) = true := bne_iff_ne.mpr c6
              (first | rw [c6b0] | (simp only [i64_w, i32_w]; rw [c6b0]) | skip)
              have H' := Aside0.mk H
              clear H
              go_wp2
              go_meet
              case rel => exact ⟨_, (((bt a0 x2_1) == 9)), (by first | rfl | (simp; done) | (simp [*]; done)), H', ⟨by have := HK1.out; first | omega | exact Nat.le_refl _⟩, by repeat (first | exact Drawn0.refl _ | apply Drawn0.step)⟩
          case rest =>
            clear HC5
            try clear c1
            try clear c2
            try clear c2b0
            try clear p2
            try clear c3
            try clear c3b0
            try clear p4
            try clear q4
            try clear hx4
            try clear c6
            try clear c6b0
            try clear c6b1
            try clear p4
            try clear q4
            obtain ⟨kq, x14_4, rfl, HA, HJ4, ⟨mc4, rfl⟩⟩ := hcut
            cases kq with
            | zero => exact absurd HA.out (by simp [text_Blank.j1])
            | succ kj4 =>
              have H := HA.out
              clear HA
              simp only [text_Blank.j1] at H
              by_cases c7 : x14_4 = true
              · subst c7
                have H1 : (text_Blank.l0 kj4 a0 (wrap64 (x2_1 + 1))) = some (r1, r2) := by rw [if_pos rfl] at H; exact H
                clear H
                have H := H1
                clear H1
                have H' := Aside0.mk H
                clear H
                go_wp2
                go_roundg kj4
                case measure => have := HK1.out; have := HJ4.out; omega
                case rel => exact ⟨(wrap64 (x2_1 + 1)), (by first | rfl | (simp; done) | (simp [*]; done)), H', ⟨by have := HK1.out; have := HJ4.out; omega⟩, by repeat (first | exact Drawn0.refl _ | apply Drawn0.step)⟩
              · replace c7 := Bool.eq_false_iff.mpr c7
                subst c7
                have H1 : (if (bt a0 x2_1) = 40 then (if 0 ≤ x2_1 then (if x2_1 ≤ (a0.size : Int) then ((text_Comment.f kj4 (a0.extract (x2_1 : Int).toNat a0.size)).bind fun bt105 => (if bt105.2 = 0 then (text_Blank.l0 kj4 a0 (wrap64 (x2_1 + bt105.1))) else (some (0, bt105.2)))) else (none)) else (none)) else (some (x2_1, 0))) = some (r1, r2) := by rw [if_neg (show ¬ (false = true) by decide)] at H; exact H
                clear H
                have H := H1
                clear H1
                by_cases c8 : (bt a0 x2_1) = 40
                · rw [if_pos c8] at H
                  have c8b0 : ((bt a0 x2_1) == 40) = true := beq_iff_eq.mpr c8
                  have c8b1 : ((bt a0 x2_1) != 40) = false := bne_eq_false_iff_eq.mpr c8
                  clear c8
                  by_cases c9 : 0 ≤ x2_1
                  · rw [if_pos c9] at H
                    have c9b0 := eq_true c9
                    have c9b1 : decide (0 ≤ x2_1) = true := decide_eq_true c9
                    clear c9
                    by_cases c10 : x2_1 ≤ (a0.size : Int)
                    · rw [if_pos c10] at H
                      have c10b0 := eq_true c10
                      have c10b1 : decide (x2_1 ≤ (a0.size : Int)) = true := decide_eq_true c10
                      clear c10
                      replace H := Option.bind_eq_some_iff.mp H
                      obtain ⟨⟨t105, t106⟩, A110, H⟩ := H
                      replace H : (if t106 = 0 then (text_Blank.l0 kj4 a0 (wrap64 (x2_1 + t105))) else (some (0, t106))) = some (r1, r2) := H
                      have A11 := Aside0.mk A110
                      clear A110
                      by_cases c12 : t106 = 0
                      · rw [if_pos c12] at H
                        have c12b0 : (t106 == 0) = true := beq_iff_eq.mpr c12
                        have c12b1 : (t106 != 0) = false := bne_eq_false_iff_eq.mpr c12
                        clear c12
                        have H' := Aside0.mk H
                        clear H
                        go_wp2_with (first | ((with_reducible refine gate_callee (f := 12) rfl ?_); refine goesL_ (some 25) rfl rfl Tryd.func12 (by kernel_rfl) rfl #[.string (a0.extract (x2_1 : Int).toNat a0.size)] rfl (by (try simp only [List.map_toArray, List.map_cons, List.map_nil]); first | done | rfl | (simp only [List.length_drop, List.length_take]; rfl)) ?_; (with_reducible refine (text_Comment.calls kj4 (a0.extract (x2_1 : Int).toNat a0.size) t105 t106 _ A11.out).mono ?_); rintro e w' ⟨rfl, ⟨nd, rfl⟩⟩; refine ⟨_, rfl, ?_⟩))
                        go_roundg kj4
                        case measure => have := HK1.out; have := HJ4.out; omega
                        case rel => exact ⟨(wrap64 (x2_1 + t105)), (by first | rfl | (simp; done) | (simp [*]; done)), H', ⟨by have := HK1.out; have := HJ4.out; omega⟩, by repeat (first | exact Drawn0.refl _ | apply Drawn0.step)⟩
                      · rw [if_neg c12] at H
                        have c12b0 : (t106 == 0) = false := beq_eq_false_iff_ne.mpr c12
                        have c12b1 : (t106 != 0) = true := bne_iff_ne.mpr c12
                        simp only [Option.some.injEq, Prod.mk.injEq] at H
                        obtain ⟨rfl, rfl⟩ := H
                        go_wp2_with (first | ((with_reducible refine gate_callee (f := 12) rfl ?_); refine goesL_ (some 25) rfl rfl Tryd.func12 (by kernel_rfl) rfl #[.string (a0.extract (x2_1 : Int).toNat a0.size)] rfl (by (try simp only [List.map_toArray, List.map_cons, List.map_nil]); first | done | rfl | (simp only [List.length_drop, List.length_take]; rfl)) ?_; (with_reducible refine (text_Comment.calls kj4 (a0.extract (x2_1 : Int).toNat a0.size) t105 t106 _ A11.out).mono ?_); rintro e w' ⟨rfl, ⟨nd, rfl⟩⟩; refine ⟨_, rfl, ?_⟩))
                        go_ret2
                        exact ⟨by first | rfl | (simp [bneNil]; done) | (simp; done) | (simp [*]; done), by repeat (first | exact Drawn0.refl _ | apply Drawn0.step)⟩
                    · rw [if_neg c10] at H
                      exact absurd H (by simp)
                  · rw [if_neg c9] at H
                    exact absurd H (by simp)
                · rw [if_neg c8] at H
                  have c8b0 : ((bt a0 x2_1) == 40) = false := beq_eq_false_iff_ne.mpr c8
                  have c8b1 : ((bt a0 x2_1) != 40) = true := bne_iff_ne.mpr c8
                  simp only [Option.some.injEq, Prod.mk.injEq] at H
                  obtain ⟨rfl, rfl⟩ := H
                  go_wp2
                  go_ret2
                  exact ⟨by first | rfl | (simp [bneNil]; done) | (simp; done) | (simp [*]; done), by repeat (first | exact Drawn0.refl _ | apply Drawn0.step)⟩
        · rw [if_neg c3] at H
          exact absurd H (by simp)
      · rw [if_neg c2] at H
        have c2b0 : decide (x2_1 < (a0.size : Int)) = false := decide_eq_false c2
        clear c2
        simp only [Option.some.injEq, Prod.mk.injEq] at H
        obtain ⟨rfl, rfl⟩ := H
        go_wp2
        go_ret2
        exact ⟨by first | rfl | (simp [bneNil]; done) | (simp; done) | (simp [*]; done), by repeat (first | exact Drawn0.refl _ | apply Drawn0.step)⟩

end Go.Proofs.YtfeihligcondgaaDoor.Q
end
section
namespace Go.Proofs.YtfeihligcondgaaDoor.Q
open Go.RowKit Go.Proofs.YtfeihligcondgaaDoorW.PrintWords Go.Proofs.YtfeihligcondgaaDoorW.PrintLast Go.Proofs.YtfeihligcondgaaDoorW.PrintMore
attribute [local go_sem] max2_int min2_int max_two min_two max_three min_three max_four min_four   -- for this text's walks alone
set_option linter.unusedVariables false
set_option linter.unusedSimpArgs false

/-! ### text_Quoted: function 14 -/
mutual
def text_Quoted.j0 : Nat → ByteArray → Bool → Option (ByteArray × Int × Int)
 | 0, _, _ => none
 | k + 1, x0, x14 => if x14 = true then (some ((⟨#[]⟩ : ByteArray), 0, 5)) else (text_Quoted.l0 k x0 ([] : List Int) 1)
def text_Quoted.l0 : Nat → ByteArray → List Int → Int → Option (ByteArray × Int × Int)
 | 0, _, _, _ => none
 | k + 1, x0, x5, x6 => if x6 < (x0.size : Int) then (if 0 ≤ x6 then (if (bt x0 x6) = 34 then (some (strOfNums x5, wrap64 (x6 + 1), 0)) else (if (bt x0 x6) = 92 then ((text_pair.f x0 x6).bind fun bt107 => (if bt107.2 = 0 then (if x5.length < 140737488355328 then (text_Quoted.l0 k x0 (x5 ++ [bt107.1]) (wrap64 ((wrap64 (x6 + 1)) + 1))) else (none)) else (some ((⟨#[]⟩ : ByteArray), 0, bt107.2)))) else ((text_plain.f (bt x0 x6)).bind fun t112 => (if t112 = true then (if x5.length < 140737488355328 then (text_Quoted.l0 k x0 (x5 ++ [bt x0 x6]) (wrap64 (x6 + 1))) else (none)) else (some ((⟨#[]⟩ : ByteArray), 0, 5)))))) else (none)) else (some ((⟨#[]⟩ : ByteArray), 0, 4))
end
def text_Quoted.f (k : Nat) (a0 : ByteArray) : Option (ByteArray × Int × Int) := if a0.toList = ([] : List UInt8) then (text_Quoted.j0 k a0 true) else (if 0 < (a0.size : Int) then (text_Quoted.j0 k a0 ((bt a0 0) != 34)) else (none))
theorem text_Quoted.mono_l : ∀ k, (∀ y0 y1, LeO (text_Quoted.j0 k y0 y1) (text_Quoted.j0 (k + 1) y0 y1)) ∧ (∀ y0 y1 y2, LeO (text_Quoted.l0 k y0 y1 y2) (text_Quoted.l0 (k + 1) y0 y1 y2))
 | 0 => ⟨fun _ _ r h => by simp [text_Quoted.j0] at h, fun _ _ _ r h => by simp [text_Quoted.l0] at h⟩
 | k + 1 => by
  obtain ⟨ih0, ih1⟩ := text_Quoted.mono_l k
  refine ⟨?_, ?_⟩
  ·intro y0 y1
   unfold text_Quoted.j0
   repeat' first
   | (with_reducible exact ih0 _ _)
   | (with_reducible exact ih1 _ _ _)
   | (with_reducible exact LeO.refl _)
   | (with_reducible exact LeO.none _)
   | (with_reducible refine LeO.ite ?_ ?_)
   | (with_reducible refine LeO.bind ?_ (fun _ => ?_))
   | exact ih0 _ _
   | exact ih1 _ _ _
   | exact LeO.none _
   | refine LeO.ite ?_ ?_
   | refine LeO.bind ?_ (fun _ => ?_)
  ·intro y0 y1 y2
   unfold text_Quoted.l0
   repeat' first
   | (with_reducible exact ih0 _ _)
   | (with_reducible exact ih1 _ _ _)
   | (with_reducible exact LeO.refl _)
   | (with_reducible exact LeO.none _)
   | (with_reducible refine LeO.ite ?_ ?_)
   | (with_reducible refine LeO.bind ?_ (fun _ => ?_))
   | exact ih0 _ _
   | exact ih1 _ _ _
   | exact LeO.none _
   | refine LeO.ite ?_ ?_
   | refine LeO.bind ?_ (fun _ => ?_)
theorem text_Quoted.mono : ∀ a0 k, LeO (text_Quoted.f k a0) (text_Quoted.f (k + 1) a0) := by
 intro a0 k
 obtain ⟨ih0, ih1⟩ := text_Quoted.mono_l k
 unfold text_Quoted.f
 repeat' first
   | (with_reducible exact ih0 _ _)
   | (with_reducible exact ih1 _ _ _)
   | (with_reducible exact LeO.refl _)
   | (with_reducible exact LeO.none _)
   | (with_reducible refine LeO.ite ?_ ?_)
   | (with_reducible refine LeO.bind ?_ (fun _ => ?_))
   | exact ih0 _ _
   | exact ih1 _ _ _
   | exact LeO.none _
   | refine LeO.ite ?_ ?_
   | refine LeO.bind ?_ (fun _ => ?_)
set_option maxHeartbeats 8000000 in
set_option maxRecDepth 100000 in
theorem text_Quoted.calls (k : Nat) (a0 : ByteArray) (r1 : ByteArray) (r2 : Int) (r3 : Int) (w : World) (h : text_Quoted.f k a0 = some (r1, r2, r3)) :
  Calls Tryd.prog 14 #[.string a0] w fun e w' => e = .returned (.tuple #[.string r1, .int .i64 r2, .int .i64 r3]) ∧ Below w.heap.size w w' := by
 have HB := Aside0.mk (Below.refl w.heap.size w)
 have H : (if a0.toList = ([] : List UInt8) then (text_Quoted.j0 k a0 true) else (if 0 < (a0.size : Int) then (text_Quoted.j0 k a0 ((bt a0 0) != 34)) else (none))) = some (r1, r2, r3) := h
 clear h
 have HC2 := Aside0.mk H
 clear H
 go_enter Tryd.func14, Tryd.ntmps14
 go_upto_region 1 with (fail)
 go_cut [14] (fun v14 wc => ∃ (kq : Nat) (x14_1 : Bool), v14 = .bool x14_1 ∧ Aside0 (text_Quoted.j0 kq a0 x14_1 = some (r1, r2, r3)) ∧ Aside0 (kq ≤ k) ∧ Aside0 (Below w.heap.size w wc))
 case first =>
  have H := HC2.out
  clear HC2
  by_cases c3 : a0.toList = ([] : List UInt8)
  ·rw [if_pos c3] at H
   have c3b0 : (a0.toList == ([] : List UInt8)) = true := beq_iff_eq.mpr c3
   have c3b1 : (a0.toList != ([] : List UInt8)) = false := bne_eq_false_iff_eq.mpr c3
   clear c3
   (first | rw [c3b0] | (simp only [i64_w, i32_w]; rw [c3b0]) | skip)
   have H' := Aside0.mk H
   clear H
   go_wp2
   go_meet
   case rel => exact ⟨_, (true), (by first | rfl | (simp; done) | (simp [*]; done)), H', ⟨by first | omega | exact Nat.le_refl _⟩, ⟨by repeat (first | (with_reducible first | exact HB.out | apply below_alloc | apply pw_below_drewN | apply below_drew1) | exact HB.out)⟩⟩
  ·rw [if_neg c3] at H
   have c3b0 : (a0.toList == ([] : List UInt8)) = false := beq_eq_false_iff_ne.mpr c3
   have c3b1 : (a0.toList != ([] : List UInt8)) = true := bne_iff_ne.mpr c3
   (first | rw [c3b0] | (simp only [i64_w, i32_w]; rw [c3b0]) | skip)
   by_cases c4 : 0 < (a0.size : Int)
   ·rw [if_pos c4] at H
    have c4b0 : decide (0 < (a0.size : Int)) = true := decide_eq_true c4
    have c4b1 : decide (0 < a0.size) = true := decide_eq_true (by omega)
    clear c4
    have H' := Aside0.mk H
    clear H
    have p5 : 0 ≤ (0 : Int) := (by omega)
    have q5 : 0 < a0.size := (by have : (0 : Int) < (a0.size : Int) := od; omega)
    have hx5 : ∀ h : 0 < a0.size, ((a0[0]'h).toNat : Int) = bt a0 0 := bt_at a0 0
    clear p5
    have qi5 : (0 < (a0.size : Int)) = True := eq_true (od)
    replace q5 := eq_true q5
    go_wp2
    go_meet
    case rel => exact ⟨_, (((bt a0 0) != 34)), (by first | rfl | (simp; done) | (simp [*]; done)), H', ⟨by first | omega | exact Nat.le_refl _⟩, ⟨by repeat (first | (with_reducible first | exact HB.out | apply below_alloc | apply pw_below_drewN | apply below_drew1) | exact HB.out)⟩⟩
   ·rw [if_neg c4] at H
    exact absurd H (by simp)
 case rest =>
  clear HC2
  try clear c1
  try clear p2
  try clear c3
  try clear c3b0
  try clear c3b1
  try clear c4
  try clear c4b0
  try clear c4b1
  try clear p5
  try clear q5
  try clear hx5
  try clear qi5
  try clear p5
  try clear q5
  obtain ⟨kq, x14_1, rfl, HA, HJ1, HB⟩ := hcut
  cases kq with
  | zero => exact absurd HA.out (by simp [text_Quoted.j0])
  | succ kj1 =>
   have H := HA.out
   clear HA
   simp only [text_Quoted.j0] at H
   by_cases c6 : x14_1 = true
   ·subst c6
    have H1 : (some ((⟨#[]⟩ : ByteArray), 0, 5)) = some (r1, r2, r3) := by rw [if_pos rfl] at H; exact H
    clear H
    have H := H1
    clear H1
    simp only [Option.some.injEq, Prod.mk.injEq] at H
    obtain ⟨rfl, rfl, rfl⟩ := H
    go_wp2
    go_ret3
    exact ⟨by first | rfl | (simp [bneNil]; done) | (simp [errW_none, errW_some] <;> rfl) | (simp [*, errW_none, errW_some] <;> rfl), by repeat (first | (with_reducible first | exact HB.out | apply below_alloc | apply pw_below_drewN | apply below_drew1) | exact HB.out)⟩
   ·replace c6 := Bool.eq_false_iff.mpr c6
    subst c6
    have H1 : (text_Quoted.l0 kj1 a0 ([] : List Int) 1) = some (r1, r2, r3) := by rw [if_neg (show ¬ (false = true) by decide)] at H; exact H
    clear H
    have H := H1
    clear H1
    have H' := Aside0.mk H
    clear H
    go_wp2
    go_loopg [5, 6] kj1 (fun kq v5 v6 w' => ∃ (x5_2 : List Int) (x6_2 : Int), v6 = .int .i64 x6_2 ∧ Aside0 (text_Quoted.l0 kq a0 x5_2 x6_2 = some (r1, r2, r3)) ∧ Aside0 (kq ≤ kj1) ∧ Aside0 (Kd.R (Kd.int .u8) 5 w' w.heap.size (fun _ => True) v5 x5_2) ∧ Aside0 (Below w.heap.size w w'))
    case atStart => exact ⟨(([] : List Int)), (1), (by first | rfl | (simp; done) | (simp [*]; done)), H', ⟨Nat.le_refl _⟩, ⟨by first | exact Kd.R_nil _ _ _ _ _ | exact Kd.N_nil _ _ _ _ _ | exact Kd.V_nil _ _ _ _ _ | exact Kd.Q_nil _ _ _ _ _ | exact Kd.S_nil _ _ _ _ _⟩, ⟨by repeat (first | (with_reducible first | exact HB.out | apply below_alloc | apply pw_below_drewN | apply below_drew1) | exact HB.out)⟩⟩
    case round =>
     clear H'
     try clear c1
     try clear p2
     try clear c3
     try clear c3b0
     try clear c3b1
     try clear c4
     try clear c4b0
     try clear c4b1
     try clear p5
     try clear q5
     try clear hx5
     try clear qi5
     try clear c6
     try clear p2
     try clear p5
     try clear q5
     obtain ⟨x5_2, x6_2, rfl, HA, HK2, HO_5, HB⟩ := hrel
     cases gk with
     | zero => exact absurd HA.out (by simp [text_Quoted.l0])
     | succ k2 =>
      have H := HA.out
      clear HA
      simp only [text_Quoted.l0] at H
      by_cases c7 : x6_2 < (a0.size : Int)
      ·rw [if_pos c7] at H
       have c7b0 : decide (x6_2 < (a0.size : Int)) = true := decide_eq_true c7
       clear c7
       by_cases c8 : 0 ≤ x6_2
       ·rw [if_pos c8] at H
        have c8b0 : decide (0 ≤ x6_2) = true := decide_eq_true c8
        clear c8
        by_cases c10 : (bt a0 x6_2) = 34
        ·rw [if_pos c10] at H
         have c10b0 : ((bt a0 x6_2) == 34) = true := beq_iff_eq.mpr c10
         have c10b1 : ((bt a0 x6_2) != 34) = false := bne_eq_false_iff_eq.mpr c10
         clear c10
         simp only [Option.some.injEq, Prod.mk.injEq] at H
         obtain ⟨rfl, rfl, rfl⟩ := H
         have p9 : 0 ≤ (x6_2 : Int) := od
         have q9 : x6_2 < (a0.size : Int) := od
         have hx9 := bt_at a0 x6_2
         replace p9 := eq_true p9
         replace q9 := eq_true q9
         have hcv11 := own_string (P := Tryd.prog) Tryd.underlying44 Tryd.underlying5 Tryd.underlying9 (Kd.own_of_R HO_5.out)
         go_wp2
         go_ret3
         exact ⟨by first | rfl | (simp [bneNil]; done) | (simp [errW_none, errW_some] <;> rfl) | (simp [*, errW_none, errW_some] <;> rfl), by repeat (first | (with_reducible first | exact HB.out | apply below_alloc | apply pw_below_drewN | apply below_drew1) | exact HB.out)⟩
        ·rw [if_neg c10] at H
         have c10b0 : ((bt a0 x6_2) == 34) = false := beq_eq_false_iff_ne.mpr c10
         have c10b1 : ((bt a0 x6_2) != 34) = true := bne_iff_ne.mpr c10
         by_cases c12 : (bt a0 x6_2) = 92
         ·rw [if_pos c12] at H
          have c12b0 : ((bt a0 x6_2) == 92) = true := beq_iff_eq.mpr c12
          have c12b1 : ((bt a0 x6_2) != 92) = false := bne_eq_false_iff_eq.mpr c12
          clear c12
          replace H := Option.bind_eq_some_iff.mp H
          obtain ⟨⟨t107, t108⟩, A130, H⟩ := H
          replace H : (if t108 = 0 then (if x5_2.length < 140737488355328 then (text_Quoted.l0 k2 a0 (x5_2 ++ [t107]) (wrap64 ((wrap64 (x6_2 + 1)) + 1))) else (none)) else (some ((⟨#[]⟩ : ByteArray), 0, t108))) = some (r1, r2, r3) := H
          have A13 := Aside0.mk A130
          clear A130
          by_cases c14 : t108 = 0
          ·rw [if_pos c14] at H
           have c14b0 : (t108 == 0) = true := beq_iff_eq.mpr c14
           have c14b1 : (t108 != 0) = false := bne_eq_false_iff_eq.mpr c14
           clear c14
           by_cases c15 : x5_2.length < 140737488355328
           ·rw [if_pos c15] at H
            have LMc15 := Aside0.mk c15
            clear c15
            obtain ⟨y109, hy109⟩ : ∃ y_ : List Int, y_ = (x5_2 ++ [t107]) := ⟨_, rfl⟩
            replace H : (text_Quoted.l0 k2 a0 y109 (wrap64 ((wrap64 (x6_2 + 1)) + 1))) = some (r1, r2, r3) := by first | (rw [hy109]; with_reducible exact H) | (have H2_ := (Option.bind_some _ _).symm.trans H; rw [hy109]; with_reducible exact H2_) | (have H2_ := (Option.bind_some _ _).symm.trans H; with_reducible exact H2_) | with_reducible exact H | (rw [hy109]; exact H) | exact H
            have Ny109 := Aside0.mk hy109
            clear hy109
            have H' := Aside0.mk H
            clear H
            have p9 : 0 ≤ (x6_2 : Int) := od
            have q9 : x6_2 < (a0.size : Int) := od
            have hx9 := bt_at a0 x6_2
            replace p9 := eq_true p9
            replace q9 := eq_true q9
            go_wp2_with (first | ((with_reducible refine gate_callee (f := 44) rfl ?_); refine goesL_ (some 37) rfl rfl Tryd.func44 (by kernel_rfl) rfl #[.string a0, .int .i64 x6_2] rfl ml ?_; (with_reducible refine (text_pair.calls a0 x6_2 t107 t108 _ A13.out).mono ?_); rintro e w' ⟨rfl, ⟨nd, rfl⟩⟩; refine ⟨_, rfl, ?_⟩) | ((with_reducible refine gate_builtin (b := .append) (xs := #[.tmp 49, .tmp 51]) rfl ?_); at_builtin; refine Kd.R_append (Kd.int .u8) (w0 := w) w.heap.size rfl (.tmp 49) (.tmp 51) 44 5 (.int .u8 0) 1 rfl Tryd.underlying44 info5 rfl (by decide) (by omega) u5 x5_2 t107 [.int .u8 t107] (fun _ => True) (fun _ => False) rfl rfl ?aP (fun _ hk => hk.elim) ?aF ?aO ?aB ?aS ?aL ?_; (case aP => exact rfl); (case aB => exact bl); (case aF => exact (fun _ _ => trivial)); (case aO => exact (kr HO_5.out)); (case aS => exact (below_size bl)); (case aL => have := LMc15.out; omega); intro v110 w16 ho hb hg hat; rw [← Ny109.out] at ho; have n0_ := Aside0.mk (hb); have n1_ := Aside0.mk (ho); clear HB; clear HO_5; have HB := n0_; have HO111 := n1_; clear n0_ n1_; clear ho hb hg hat))
            go_roundg k2
            case measure => have := HJ1.out; have := HK2.out; omega
            case rel => exact ⟨(y109), (wrap64 ((wrap64 (x6_2 + 1)) + 1)), (by first | rfl | (simp; done) | (simp [*]; done)), H', ⟨by have := HJ1.out; have := HK2.out; omega⟩, ⟨by (with_reducible repeat (first | apply Kd.R_alloc | apply Kd.R_drewN | apply Kd.R_drew)); exact HO111.out⟩, ⟨by repeat (first | (with_reducible first | exact HB.out | apply below_alloc | apply pw_below_drewN | apply below_drew1) | exact HB.out)⟩⟩
           ·rw [if_neg c15] at H
            exact absurd H (by simp)
          ·rw [if_neg c14] at H
           have c14b0 : (t108 == 0) = false := beq_eq_false_iff_ne.mpr c14
           have c14b1 : (t108 != 0) = true := bne_iff_ne.mpr c14
           simp only [Option.some.injEq, Prod.mk.injEq] at H
           obtain ⟨rfl, rfl, rfl⟩ := H
           have p9 : 0 ≤ (x6_2 : Int) := od
           have q9 : x6_2 < (a0.size : Int) := od
           have hx9 := bt_at a0 x6_2
           replace p9 := eq_true p9
           replace q9 := eq_true q9
           go_wp2_with (first | ((with_reducible refine gate_callee (f := 44) rfl ?_); refine goesL_ (some 37) rfl rfl Tryd.func44 (by kernel_rfl) rfl #[.string a0, .int .i64 x6_2] rfl ml ?_; (with_reducible refine (text_pair.calls a0 x6_2 t107 t108 _ A13.out).mono ?_); rintro e w' ⟨rfl, ⟨nd, rfl⟩⟩; refine ⟨_, rfl, ?_⟩))
           go_ret3
           exact ⟨by first | rfl | (simp [bneNil]; done) | (simp [errW_none, errW_some] <;> rfl) | (simp [*, errW_none, errW_some] <;> rfl), by repeat (first | (with_reducible first | exact HB.out | apply below_alloc | apply pw_below_drewN | apply below_drew1) | exact HB.out)⟩
         ·rw [if_neg c12] at H
          have c12b0 : ((bt a0 x6_2) == 92) = false := beq_eq_false_iff_ne.mpr c12
          have c12b1 : ((bt a0 x6_2) != 92) = true := bne_iff_ne.mpr c12
          replace H := Option.bind_eq_some_iff.mp H
          obtain ⟨t112, A170, H⟩ := H
          replace H : (if t112 = true then (if x5_2.length < 140737488355328 then (text_Quoted.l0 k2 a0 (x5_2 ++ [bt a0 x6_2]) (wrap64 (x6_2 + 1))) else (none)) else (some ((⟨#[]⟩ : ByteArray), 0, 5))) = some (r1, r2, r3) := H
          have A17 := Aside0.mk A170
          clear A170
          by_cases c18 : t112 = true
          ·subst c18
           have H1 : (if x5_2.length < 140737488355328 then (text_Quoted.l0 k2 a0 (x5_2 ++ [bt a0 x6_2]) (wrap64 (x6_2 + 1))) else (none)) = some (r1, r2, r3) := by rw [if_pos rfl] at H; exact H
           clear H
           have H := H1
           clear H1
           by_cases c19 : x5_2.length < 140737488355328
           ·rw [if_pos c19] at H
            have LMc19 := Aside0.mk c19
            clear c19
            obtain ⟨y113, hy113⟩ : ∃ y_ : List Int, y_ = (x5_2 ++ [bt a0 x6_2]) := ⟨_, rfl⟩
            replace H : (text_Quoted.l0 k2 a0 y113 (wrap64 (x6_2 + 1))) = some (r1, r2, r3) := by first | (rw [hy113]; with_reducible exact H) | (have H2_ := (Option.bind_some _ _).symm.trans H; rw [hy113]; with_reducible exact H2_) | (have H2_ := (Option.bind_some _ _).symm.trans H; with_reducible exact H2_) | with_reducible exact H | (rw [hy113]; exact H) | exact H
            have Ny113 := Aside0.mk hy113
            clear hy113
            have H' := Aside0.mk H
            clear H
            have p9 : 0 ≤ (x6_2 : Int) := od
            have q9 : x6_2 < (a0.size : Int) := od
            have hx9 := bt_at a0 x6_2
            replace p9 := eq_true p9
            replace q9 := eq_true q9
            go_wp2_with (first | ((with_reducible refine gate_callee (f := 45) rfl ?_); refine goesL_ (some 47) rfl rfl Tryd.func45 (by kernel_rfl) rfl #[.int .u8 (bt a0 x6_2)] rfl ml ?_; (with_reducible refine (text_plain.calls (bt a0 x6_2) true _ A17.out).mono ?_); rintro e w' ⟨rfl, ⟨nd, rfl⟩⟩; refine ⟨_, rfl, ?_⟩) | ((with_reducible refine gate_builtin (b := .append) (xs := #[.tmp 49, .tmp 51]) rfl ?_); at_builtin; refine Kd.R_append (Kd.int .u8) (w0 := w) w.heap.size rfl (.tmp 49) (.tmp 51) 44 5 (.int .u8 0) 1 rfl Tryd.underlying44 info5 rfl (by decide) (by omega) u5 x5_2 (bt a0 x6_2) [.int .u8 (bt a0 x6_2)] (fun _ => True) (fun _ => False) rfl rfl ?aP (fun _ hk => hk.elim) ?aF ?aO ?aB ?aS ?aL ?_; (case aP => exact rfl); (case aB => exact bl); (case aF => exact (fun _ _ => trivial)); (case aO => exact (kr HO_5.out)); (case aS => exact (below_size bl)); (case aL => have := LMc19.out; omega); intro v114 w20 ho hb hg hat; rw [← Ny113.out] at ho; have n0_ := Aside0.mk (hb); have n1_ := Aside0.mk (ho); clear HB; clear HO_5; have HB := n0_; have HO115 := n1_; clear n0_ n1_; clear ho hb hg hat))
            go_roundg k2
            case measure => have := HJ1.out; have := HK2.out; omega
            case rel => exact ⟨(y113), (wrap64 (x6_2 + 1)), (by first | rfl | (simp; done) | (simp [*]; done)), H', ⟨by have := HJ1.out; have := HK2.out; omega⟩, ⟨by (with_reducible repeat (first | apply Kd.R_alloc | apply Kd.R_drewN | apply Kd.R_drew)); exact HO115.out⟩, ⟨by repeat (first | (with_reducible first | exact HB.out | apply below_alloc | apply pw_below_drewN | apply below_drew1) | exact HB.out)⟩⟩
           ·rw [if_neg c19] at H
            exact absurd H (by simp)
          ·replace c18 := Bool.eq_false_iff.mpr c18
           subst c18
           have H1 : (some ((⟨#[]⟩ : ByteArray), 0, 5)) = some (r1, r2, r3) := by rw [if_neg (show ¬ (false = true) by decide)] at H; exact H
           clear H
           have H := H1
           clear H1
           simp only [Option.some.injEq, Prod.mk.injEq] at H
           obtain ⟨rfl, rfl, rfl⟩ := H
           have p9 : 0 ≤ (x6_2 : Int) := od
           have q9 : x6_2 < (a0.size : Int) := od
           have hx9 := bt_at a0 x6_2
           replace p9 := eq_true p9
           replace q9 := eq_true q9
           go_wp2_with (first | ((with_reducible refine gate_callee (f := 45) rfl ?_); refine goesL_ (some 47) rfl rfl Tryd.func45 (by kernel_rfl) rfl #[.int .u8 (bt a0 x6_2)] rfl ml ?_; (with_reducible refine (text_plain.calls (bt a0 x6_2) false _ A17.out).mono ?_); rintro e w' ⟨rfl, ⟨nd, rfl⟩⟩; refine ⟨_, rfl, ?_⟩))
           go_ret3
           exact ⟨by first | rfl | (simp [bneNil]; done) | (simp [errW_none, errW_some] <;> rfl) | (simp [*, errW_none, errW_some] <;> rfl), by repeat (first | (with_reducible first | exact HB.out | apply below_alloc | apply pw_below_drewN | apply below_drew1) | exact HB.out)⟩
       ·rw [if_neg c8] at H
        exact absurd H (by simp)
      ·rw [if_neg c7] at H
       have c7b0 : decide (x6_2 < (a0.size : Int)) = false := decide_eq_false c7
       clear c7
       simp only [Option.some.injEq, Prod.mk.injEq] at H
       obtain ⟨rfl, rfl, rfl⟩ := H
       go_wp2
       go_ret3
       exact ⟨by first | rfl | (simp [bneNil]; done) | (simp [errW_none, errW_some] <;> rfl) | (simp [*, errW_none, errW_some] <;> rfl), by repeat (first | (with_reducible first | exact HB.out | apply below_alloc | apply pw_below_drewN | apply below_drew1) | exact HB.out)⟩

/-! ### text_Plain: function 19 (by hand) -/
def plainC (c : UInt8) : Bool := decide (32 ≤ c.toNat) && decide (c.toNat ≤ 126)
def plainB (s : ByteArray) : Bool := s.data.toList.all plainC
def text_Plain.f (a0 : ByteArray) : Option Bool := some (plainB a0)
theorem plain_step (s : ByteArray) (pos : Nat) (h : pos < s.size) : (s.data.toList.take (pos + 1)).all plainC = ((s.data.toList.take pos).all plainC && plainC (s[pos]'h)) := by
  rw [List.take_succ_eq_append_getElem (by simpa using h), List.all_append]
  simp
  rfl
theorem plain_at (s : ByteArray) (pos : Nat) (h : pos < s.size) (hb : ¬ (32 ≤ (s[pos]'h).toNat ∧ (s[pos]'h).toNat ≤ 126)) : plainB s = false := by
  unfold plainB
  rw [Bool.eq_false_iff]
  intro ha
  rw [List.all_eq_true] at ha
  have := ha (s[pos]'h) (by
    have h' : pos < s.data.toList.length := by simpa using h
    have e : s.data.toList[pos]'h' = s[pos]'h := by simp; rfl
    rw [← e]; exact List.getElem_mem h')
  simp [plainC] at this
  exact hb ⟨by omega, by omega⟩
set_option maxHeartbeats 1000000 in
set_option maxRecDepth 100000 in
theorem text_Plain.calls (a0 : ByteArray) (r : Bool) (w : World) (h : text_Plain.f a0 = some r) :
    Calls Tryd.prog 19 #[.string a0] w fun e w' => e = .returned (.bool r) ∧ Below w.heap.size w w' := by
  have hr := Option.some.inj h
  clear h
  subst hr
  go_enter Tryd.func19, Tryd.ntmps19
  go_wp2
  go_loopw [] (fun w' => ∃ pos : Nat, w' = w.iter a0 pos ∧ pos ≤ a0.size ∧ (a0.data.toList.take pos).all plainC = true) (fun w' => a0.size - w'.iterPos w.heap.size)
  case atStart => exact ⟨0, rfl, Nat.zero_le _, rfl⟩
  case round =>
    obtain ⟨pos, rfl, hle, hall⟩ := hrel
    have Hall := Lib.hid hall
    clear hall
    by_cases hp : pos < a0.size
    · have hnx : ∀ ty, (Instr.next (.pointer (some ⟨w.heap.size, 0, none⟩)) true ty).run Tryd.prog (w.iter a0 pos) = _ := fun ty => run_next_any w a0 pos ty hp
      by_cases ha : (a0[pos]'hp).toNat < 128
      · have hd := decode_ascii a0 pos hp ha
        rw [hd] at hnx
        clear hd
        obtain ⟨c, hc⟩ : ∃ c : Nat, c = (a0[pos]'hp).toNat := ⟨_, rfl⟩
        rw [← hc] at hnx ha
        have Hc := Lib.hid hc
        clear hc
        by_cases h1 : 126 < (c : Int)
        · have hfin : plainB a0 = false := plain_at a0 pos hp (by have := Hc.out; omega)
          have Hfin := Lib.hid hfin
          clear hfin
          have hb : decide (126 < (c : Int)) = true := decide_eq_true h1
          go_wp2
          go_ret
          rw [Hfin.out]
          exact ⟨rfl, below_alloc (Below.refl _ _) _⟩
        · have hb : decide (126 < (c : Int)) = false := decide_eq_false h1
          by_cases h2 : 32 ≤ (c : Int)
          · have hb2 : decide (32 ≤ (c : Int)) = true := decide_eq_true h2
            have hb3 : decide ((c : Int) ≤ 126) = true := decide_eq_true (by omega)
            have hs := plain_step a0 pos hp
            rw [Hall.out] at hs
            have Hs := Lib.hid hs
            clear hs
            go_wp2
            go_roundw
            case rel =>
              refine ⟨pos + 1, rfl, hp, ?_⟩
              rw [Hs.out]
              have := Hc.out
              simp [plainC]
              omega
            case measure => simp; omega
          · have hfin : plainB a0 = false := plain_at a0 pos hp (by have := Hc.out; omega)
            have Hfin := Lib.hid hfin
            clear hfin
            have hb2 : decide (32 ≤ (c : Int)) = false := decide_eq_false h2
            go_wp2
            go_ret
            rw [Hfin.out]
            exact ⟨rfl, below_alloc (Below.refl _ _) _⟩
      · have hd := decode_high a0 pos hp (by omega)
        obtain ⟨c, hc⟩ : ∃ c : Nat × Nat, c = Utf8.decode a0 pos := ⟨_, rfl⟩
        rw [← hc] at hnx hd
        obtain ⟨c, n⟩ := c
        simp only at hnx hd
        clear hc
        have hfin : plainB a0 = false := plain_at a0 pos hp (by omega)
        have Hfin := Lib.hid hfin
        clear hfin
        have hb : decide (126 < (c : Int)) = true := decide_eq_true (by omega)
        go_wp2
        go_ret
        rw [Hfin.out]
        exact ⟨rfl, below_alloc (Below.refl _ _) _⟩
    · have hnx : ∀ ty, (Instr.next (.pointer (some ⟨w.heap.size, 0, none⟩)) true ty).run Tryd.prog (w.iter a0 pos) = _ := fun ty => run_next_end w a0 pos ty hp
      go_wp2
      go_ret
      have e : pos = a0.size := by omega
      subst e
      have := Hall.out
      rw [List.take_of_length_le (by simp)] at this
      rw [show plainB a0 = true from this]
      exact ⟨rfl, below_alloc (Below.refl _ _) _⟩


/-! ### text_Quote: function 34 (by hand) -/
def quoteC (c : UInt8) : List UInt8 := if c = 34 ∨ c = 92 then [92, c] else [c]
def quoteM (l : List UInt8) : List UInt8 := l.flatMap quoteC
def quoteL (l : List UInt8) : List UInt8 := 34 :: (quoteM l ++ [34])
def quoteB (s : ByteArray) : ByteArray := ⟨(quoteL s.data.toList).toArray⟩
def numsOf (l : List UInt8) : List Int := l.map fun b => (b.toNat : Int)
def quoteN (l : List UInt8) : List Int := 34 :: numsOf (quoteM l)
def text_Quote.f (a0 : ByteArray) : Option (ByteArray × Int) := if a0.size < 70368744177000 then (if plainB a0 = true then some (quoteB a0, 0) else some ((⟨#[]⟩ : ByteArray), 5)) else none
theorem quoteC_len (c : UInt8) : (quoteC c).length ≤ 2 := by unfold quoteC; split <;> simp
theorem quoteM_len (l : List UInt8) : (quoteM l).length ≤ 2 * l.length := by
  unfold quoteM
  induction l with
  | nil => simp
  | cons c l ih => simp only [List.flatMap_cons, List.length_append, List.length_cons]; have := quoteC_len c; omega
theorem quoteN_len (l : List UInt8) : (quoteN l).length ≤ 2 * l.length + 1 := by
  unfold quoteN numsOf; simp; have := quoteM_len l; omega
theorem quoteN_snoc2 (s : ByteArray) (k : Nat) (h : k < s.size) (hc : (s[k]'h) = 34 ∨ (s[k]'h) = 92) : quoteN (s.data.toList.take (k + 1)) = (quoteN (s.data.toList.take k) ++ [92]) ++ [((s[k]'h).toNat : Int)] := by
  rw [List.take_succ_eq_append_getElem (by simpa using h)]
  have e : (s.data.toList[k]'(by simpa using h)) = s[k]'h := by simp; rfl
  rw [e]
  simp [quoteN, quoteM, numsOf, quoteC, hc]
theorem quoteN_snoc1 (s : ByteArray) (k : Nat) (h : k < s.size) (hc : ¬ ((s[k]'h) = 34 ∨ (s[k]'h) = 92)) : quoteN (s.data.toList.take (k + 1)) = quoteN (s.data.toList.take k) ++ [((s[k]'h).toNat : Int)] := by
  rw [List.take_succ_eq_append_getElem (by simpa using h)]
  have e : (s.data.toList[k]'(by simpa using h)) = s[k]'h := by simp; rfl
  rw [e]
  simp [quoteN, quoteM, numsOf, quoteC, hc]
theorem quote_str (s : ByteArray) : strOfNums (quoteN s.data.toList ++ [34]) = quoteB s := by
  unfold strOfNums quoteN quoteB quoteL numsOf
  simp [List.map_map, Function.comp_def]
theorem bytes_cell_at {W w1 : World} {g e : Nat} {s : ByteArray} {C : Array Value} {fz : Nat × Nat} (h : W.heap[g]? = some (.cells C e fz)) (hC : C = Lib.bytesCells w1 e s) (j : Nat) (hj : j < s.size) : W.cell? ⟨g, j, none⟩ = some (.int .u8 ((s[j]'hj).toNat : Nat)) := by
  subst hC
  simp [World.cell?, h, Lib.bytesCells, Array.getElem?_append, hj]
  rfl
set_option maxHeartbeats 1000000 in
set_option maxRecDepth 100000 in
theorem text_Quote.calls (a0 : ByteArray) (r1 : ByteArray) (r2 : Int) (w : World) (h : text_Quote.f a0 = some (r1, r2)) :
    Calls Tryd.prog 34 #[.string a0] w fun e w' => e = .returned (.tuple #[.string r1, .int .i64 r2]) ∧ Below w.heap.size w w' := by
  unfold text_Quote.f at h
  by_cases hsz : a0.size < 70368744177000
  · rw [if_pos hsz] at h
    by_cases hp : plainB a0 = true
    · rw [if_pos hp] at h
      simp only [Option.some.injEq, Prod.mk.injEq] at h
      obtain ⟨rfl, rfl⟩ := h
      have Hp := Lib.hid hp
      clear hp
      go_enter Tryd.func34, Tryd.ntmps34
      have hcv := fun W => print_bytes (P := Tryd.prog) 9 44 5 Tryd.underlying9 Tryd.underlying44 Tryd.underlying5 a0 W
      go_wp2_with (first | (go_at_call 19; refine (text_Plain.calls a0 true _ (by unfold text_Plain.f; rw [Hp.out])).mono ?_; rintro e w1 ⟨rfl, hb⟩) | ((with_reducible refine gate_dst (N := 10) rfl ?_); refine Kd.R_lit (Kd.int .u8) (w0 := w) w.heap.size 5 ?hg (N := 10) ?hd (xs := [34]) (inner := [.int .u8 34]) (ok := fun _ => True) (okp := fun _ => True) ?hr ?hp (fun _ hk => hk) trivial hb hb.size (by simp) ?_; (case hd => rfl); (case hg => rfl); (case hr => first | (go_simp; done) | (go_simp; rfl)); (case hp => exact (Reps.one (show Kd.M (Kd.int .u8) _ _ _ 34 [.int .u8 34] from rfl) (Reps.none _ _))); intro v2 w2 ho hb2 hg_ hnew_))
      clear hcv
      obtain ⟨w3, hw3⟩ : ∃ w3, w3 = Lib.bytesWorld w2 5 a0 := ⟨_, rfl⟩
      rw [← hw3]
      have HG := Aside0.mk (Lib.bytesWorld_at_new w2 5 a0)
      have HO := Aside0.mk (Kd.R_below (Kd.R_mono (ok' := fun j => j ≠ w2.heap.size) (Kd.R_bound ho) (fun j hj => by have := hj.2.2.1; omega)) (bytes_below (Below.refl _ _) (Nat.le_refl _) 5 a0))
      have HB := Aside0.mk (bytes_below hb2 hb2.size 5 a0)
      have HS := Aside0.mk (show w2.heap.size < (Lib.bytesWorld w2 5 a0).heap.size by rw [Lib.bytesWorld_size]; omega)
      rw [← hw3] at HG HO HB HS
      have HE := Lib.hid hw3
      clear hw3 ho hb2 hg_ hnew_ hb
      generalize grownCap w2 a0.size 0 5 = cap
      obtain ⟨C, hC⟩ : ∃ C, C = Lib.bytesCells w2 5 a0 := ⟨_, rfl⟩
      obtain ⟨fz, hfz⟩ : ∃ fz : Nat × Nat, fz = (C.size, C.size + 1) := ⟨_, rfl⟩
      rw [← hC, ← hfz] at HG
      have HC := Lib.hid hC
      clear hC hfz
      obtain ⟨g, hg⟩ : ∃ g, g = w2.heap.size := ⟨_, rfl⟩
      rw [← hg] at HG HO HS ⊢
      clear hg
      go_loopw [4, 14] (fun v4 v14 w' => ∃ (k : Nat), v14 = .int .i64 k ∧ k ≤ a0.size ∧ Aside0 (Kd.R (Kd.int .u8) 5 w' w.heap.size (fun j => j ≠ g) v4 (quoteN (a0.data.toList.take k))) ∧ Aside0 (w'.heap[g]? = some (.cells C 5 fz)) ∧ Aside0 (Below w.heap.size w w')) (fun _ v14 _ => a0.size - (intOf v14).toNat)
      case atStart => exact ⟨0, rfl, Nat.zero_le _, ⟨HO.out⟩, ⟨HG.out⟩, ⟨HB.out⟩⟩
      case round =>
        clear HO HG HB HS
        obtain ⟨k, rfl, hk, HO, HG, HB⟩ := hrel
        have HS := Aside0.mk (blk_lt HG.out)
        have HL := Aside0.mk (Nat.le_trans (quoteN_len (a0.data.toList.take k)) (show 2 * (a0.data.toList.take k).length + 1 ≤ 140737488354001 by have := List.length_take_le k a0.data.toList; omega))
        by_cases hlt : k < a0.size
        · have hcell : wr.cell? ⟨g, k, none⟩ = some (.int .u8 ((a0[k]'hlt).toNat : Nat)) := bytes_cell_at HG.out HC.out k hlt
          by_cases hc : (a0[k]'hlt) = 34 ∨ (a0[k]'hlt) = 92
          · have Hs := Lib.hid (quoteN_snoc2 a0 k hlt hc)
            obtain ⟨c, hcc⟩ : ∃ c : Nat, c = (a0[k]'hlt).toNat := ⟨_, rfl⟩
            have hc' : c = 34 ∨ c = 92 := by rcases hc with h | h <;> (rw [hcc, h]; simp)
            rw [← hcc] at hcell Hs
            clear hc
            have Hcc := Lib.hid hcc
            clear hcc
            rcases hc' with rfl | rfl
            · go_wp2_with (first | ((with_reducible refine gate_builtin (b := .append) (xs := #[.tmp 24, .tmp 25]) rfl ?_); at_builtin; refine Kd.R_append (Kd.int .u8) (w0 := w) w.heap.size rfl (.tmp 24) (.tmp 25) 44 5 (.int .u8 0) 1 rfl Tryd.underlying44 info5 rfl (by decide) (by omega) u4 (quoteN (a0.data.toList.take k)) 92 [.int .u8 92] (fun j => j ≠ g) (fun _ => False) rfl rfl ?aP (fun _ hk => hk.elim) ?aF ?aO ?aB ?aS ?aL ?_; (case aP => exact rfl); (case aB => exact HB.out); (case aF => exact (fun j hj => by have := blk_lt HG.out; omega)); (case aO => exact HO.out); (case aS => exact (HB.out).size); (case aL => have := HL.out; (try simp only [List.length_append, List.length_singleton]); omega); intro v5 w5 ho hb hg hat; have HO5 := Aside0.mk ho; have HB5 := Aside0.mk hb; have HG5 := Aside0.mk (blk_grown HG.out hg (Kd.R_away HO.out (fun _ h => h))); clear ho hb hg hat) | ((with_reducible refine gate_builtin (b := .append) (xs := #[.tmp 27, .tmp 29]) rfl ?_); at_builtin; refine Kd.R_append (Kd.int .u8) (w0 := w) w.heap.size rfl (.tmp 27) (.tmp 29) 44 5 (.int .u8 0) 1 rfl Tryd.underlying44 info5 rfl (by decide) (by omega) v5 ((quoteN (a0.data.toList.take k)) ++ [92]) 34 [.int .u8 34] (fun j => j ≠ g) (fun _ => False) rfl rfl ?aP (fun _ hk => hk.elim) ?aF ?aO ?aB ?aS ?aL ?_; (case aP => exact rfl); (case aB => exact HB5.out); (case aF => exact (fun j hj => by have := blk_lt HG5.out; omega)); (case aO => exact HO5.out); (case aS => exact (HB5.out).size); (case aL => have := HL.out; (try simp only [List.length_append, List.length_singleton]); omega); intro v6 w6 ho hb hg hat; have HO6 := Aside0.mk ho; have HB6 := Aside0.mk hb; have HG6 := Aside0.mk (blk_grown HG5.out hg (Kd.R_away HO5.out (fun _ h => h))); clear ho hb hg hat))
              go_roundw
              case rel => exact ⟨k + 1, by go_num, hlt, ⟨by rw [Hs.out]; exact HO6.out⟩, ⟨HG6.out⟩, ⟨HB6.out⟩⟩
              case measure => simp [intOf]; omega
            · go_wp2_with (first | ((with_reducible refine gate_builtin (b := .append) (xs := #[.tmp 24, .tmp 25]) rfl ?_); at_builtin; refine Kd.R_append (Kd.int .u8) (w0 := w) w.heap.size rfl (.tmp 24) (.tmp 25) 44 5 (.int .u8 0) 1 rfl Tryd.underlying44 info5 rfl (by decide) (by omega) u4 (quoteN (a0.data.toList.take k)) 92 [.int .u8 92] (fun j => j ≠ g) (fun _ => False) rfl rfl ?aP (fun _ hk => hk.elim) ?aF ?aO ?aB ?aS ?aL ?_; (case aP => exact rfl); (case aB => exact HB.out); (case aF => exact (fun j hj => by have := blk_lt HG.out; omega)); (case aO => exact HO.out); (case aS => exact (HB.out).size); (case aL => have := HL.out; (try simp only [List.length_append, List.length_singleton]); omega); intro v5 w5 ho hb hg hat; have HO5 := Aside0.mk ho; have HB5 := Aside0.mk hb; have HG5 := Aside0.mk (blk_grown HG.out hg (Kd.R_away HO.out (fun _ h => h))); clear ho hb hg hat) | ((with_reducible refine gate_builtin (b := .append) (xs := #[.tmp 27, .tmp 29]) rfl ?_); at_builtin; refine Kd.R_append (Kd.int .u8) (w0 := w) w.heap.size rfl (.tmp 27) (.tmp 29) 44 5 (.int .u8 0) 1 rfl Tryd.underlying44 info5 rfl (by decide) (by omega) v5 ((quoteN (a0.data.toList.take k)) ++ [92]) 92 [.int .u8 92] (fun j => j ≠ g) (fun _ => False) rfl rfl ?aP (fun _ hk => hk.elim) ?aF ?aO ?aB ?aS ?aL ?_; (case aP => exact rfl); (case aB => exact HB5.out); (case aF => exact (fun j hj => by have := blk_lt HG5.out; omega)); (case aO => exact HO5.out); (case aS => exact (HB5.out).size); (case aL => have := HL.out; (try simp only [List.length_append, List.length_singleton]); omega); intro v6 w6 ho hb hg hat; have HO6 := Aside0.mk ho; have HB6 := Aside0.mk hb; have HG6 := Aside0.mk (blk_grown HG5.out hg (Kd.R_away HO5.out (fun _ h => h))); clear ho hb hg hat))
              go_roundw
              case rel => exact ⟨k + 1, by go_num, hlt, ⟨by rw [Hs.out]; exact HO6.out⟩, ⟨HG6.out⟩, ⟨HB6.out⟩⟩
              case measure => simp [intOf]; omega
          · have Hs := Lib.hid (quoteN_snoc1 a0 k hlt hc)
            obtain ⟨c, hcc⟩ : ∃ c : Nat, c = (a0[k]'hlt).toNat := ⟨_, rfl⟩
            have h1 : ¬ c = 34 := fun h => hc (.inl (UInt8.toNat_inj.mp (by rw [← hcc, h]; rfl)))
            have h2 : ¬ c = 92 := fun h => hc (.inr (UInt8.toNat_inj.mp (by rw [← hcc, h]; rfl)))
            have h1b : ((c : Int) == 34) = false := beq_eq_false_iff_ne.mpr (by omega)
            have h2b : ((c : Int) == 92) = false := beq_eq_false_iff_ne.mpr (by omega)
            rw [← hcc] at hcell Hs
            clear hc h1 h2
            have Hcc := Lib.hid hcc
            clear hcc
            go_wp2_with (first | ((with_reducible refine gate_builtin (b := .append) (xs := #[.tmp 27, .tmp 29]) rfl ?_); at_builtin; refine Kd.R_append (Kd.int .u8) (w0 := w) w.heap.size rfl (.tmp 27) (.tmp 29) 44 5 (.int .u8 0) 1 rfl Tryd.underlying44 info5 rfl (by decide) (by omega) u4 (quoteN (a0.data.toList.take k)) (c : Int) [.int .u8 (c : Int)] (fun j => j ≠ g) (fun _ => False) rfl rfl ?aP (fun _ hk => hk.elim) ?aF ?aO ?aB ?aS ?aL ?_; (case aP => exact rfl); (case aB => exact HB.out); (case aF => exact (fun j hj => by have := blk_lt HG.out; omega)); (case aO => exact HO.out); (case aS => exact (HB.out).size); (case aL => have := HL.out; (try simp only [List.length_append, List.length_singleton]); omega); intro v5 w5 ho hb hg hat; have HO5 := Aside0.mk ho; have HB5 := Aside0.mk hb; have HG5 := Aside0.mk (blk_grown HG.out hg (Kd.R_away HO.out (fun _ h => h))); clear ho hb hg hat))
            go_roundw
            case rel => exact ⟨k + 1, by go_num, hlt, ⟨by rw [Hs.out]; exact HO5.out⟩, ⟨HG5.out⟩, ⟨HB5.out⟩⟩
            case measure => simp [intOf]; omega
        · have hk' : k = a0.size := by omega
          subst hk'
          have HF := Lib.hid (show quoteN (a0.data.toList.take a0.size) = quoteN a0.data.toList by rw [List.take_of_length_le (by simp)])
          go_wp2_with (first | ((with_reducible refine gate_builtin (b := .append) (xs := #[.tmp 32, .tmp 33]) rfl ?_); at_builtin; refine Kd.R_append (Kd.int .u8) (w0 := w) w.heap.size rfl (.tmp 32) (.tmp 33) 44 5 (.int .u8 0) 1 rfl Tryd.underlying44 info5 rfl (by decide) (by omega) u4 (quoteN (a0.data.toList.take a0.size)) 34 [.int .u8 34] (fun j => j ≠ g) (fun _ => False) rfl rfl ?aP (fun _ hk => hk.elim) ?aF ?aO ?aB ?aS ?aL ?_; (case aP => exact rfl); (case aB => exact HB.out); (case aF => exact (fun j hj => by have := blk_lt HG.out; omega)); (case aO => exact HO.out); (case aS => exact (HB.out).size); (case aL => have := HL.out; (try simp only [List.length_append, List.length_singleton]); omega); intro v5 w5 ho hb hg hat; have hcs := own_string (P := Tryd.prog) Tryd.underlying44 Tryd.underlying5 Tryd.underlying9 (Kd.own_of_R ho); have HB5 := Aside0.mk hb; clear ho hb hg hat))
          go_ret2
          refine ⟨?_, HB5.out⟩
          rw [HF.out, quote_str]
          rfl
    · rw [if_neg hp] at h
      simp only [Option.some.injEq, Prod.mk.injEq] at h
      obtain ⟨rfl, rfl⟩ := h
      have Hp := Lib.hid (Bool.eq_false_iff.mpr hp)
      clear hp
      go_enter Tryd.func34, Tryd.ntmps34
      go_wp2_with (go_at_call 19; refine (text_Plain.calls a0 false _ (by unfold text_Plain.f; rw [Hp.out])).mono ?_; rintro e w1 ⟨rfl, hb⟩)
      go_ret2
      exact ⟨rfl, hb⟩
  · rw [if_neg hsz] at h
    exact absurd h (by simp)


/-! ### postriderlaw04_tells: function 13 -/
def postriderlaw04_tells.f (k : Nat)  : Option (Bool) := (text_Quote.f (⟨#[97, 34, 98]⟩ : ByteArray)).bind fun bt116 => ((text_Quoted.f k (⟨#[34, 120, 32, 121, 34, 32, 122]⟩ : ByteArray)).bind fun bt118 => ((text_Blank.f k (⟨#[32, 40, 97, 32, 40, 98, 41, 41, 32, 99]⟩ : ByteArray)).bind fun bt121 => (if bt116.2 = 0 then (if bt116.1.toList = ([34, 97, 92, 34, 98, 34] : List UInt8) then (if bt118.2.2 = 0 then (if bt118.1.toList = ([120, 32, 121] : List UInt8) then (if bt118.2.1 = 5 then (if bt121.2 = 0 then (some (bt121.1 == 9)) else (some false)) else (some false)) else (some false)) else (some false)) else (some false)) else (some false))))
theorem postriderlaw04_tells.mono : ∀ k, LeO (postriderlaw04_tells.f k ) (postriderlaw04_tells.f (k + 1) ) := by
 intro  k
 unfold postriderlaw04_tells.f
 repeat' first
   | (with_reducible exact text_Blank.mono _ _)
   | (with_reducible exact text_Quoted.mono _ _)
   | (with_reducible exact LeO.refl _)
   | (with_reducible exact LeO.none _)
   | (with_reducible refine LeO.ite ?_ ?_)
   | (with_reducible refine LeO.bind ?_ (fun _ => ?_))
   | exact text_Blank.mono _ _
   | exact text_Quoted.mono _ _
   | exact LeO.none _
   | refine LeO.ite ?_ ?_
   | refine LeO.bind ?_ (fun _ => ?_)
set_option maxHeartbeats 8000000 in
set_option maxRecDepth 100000 in
theorem postriderlaw04_tells.calls (k : Nat)  (r : Bool) (w : World) (h : postriderlaw04_tells.f k  = some r) :
  Calls Tryd.prog 13 #[] w fun e w' => e = .returned (.bool r) ∧ Below w.heap.size w w' := by
 have HB := Aside0.mk (Below.refl w.heap.size w)
 have H : ((text_Quote.f (⟨#[97, 34, 98]⟩ : ByteArray)).bind fun bt116 => ((text_Quoted.f k (⟨#[34, 120, 32, 121, 34, 32, 122]⟩ : ByteArray)).bind fun bt118 => ((text_Blank.f k (⟨#[32, 40, 97, 32, 40, 98, 41, 41, 32, 99]⟩ : ByteArray)).bind fun bt121 => (if bt116.2 = 0 then (if bt116.1.toList = ([34, 97, 92, 34, 98, 34] : List UInt8) then (if bt118.2.2 = 0 then (if bt118.1.toList = ([120, 32, 121] : List UInt8) then (if bt118.2.1 = 5 then (if bt121.2 = 0 then (some (bt121.1 == 9)) else (some false)) else (some false)) else (some false)) else (some false)) else (some false)) else (some false))))) = some r := h
 clear h
 replace H := Option.bind_eq_some_iff.mp H
 obtain ⟨⟨t116, t117⟩, A10, H⟩ := H
 replace H : ((text_Quoted.f k (⟨#[34, 120, 32, 121, 34, 32, 122]⟩ : ByteArray)).bind fun bt118 => ((text_Blank.f k (⟨#[32, 40, 97, 32, 40, 98, 41, 41, 32, 99]⟩ : ByteArray)).bind fun bt121 => (if t117 = 0 then (if t116.toList = ([34, 97, 92, 34, 98, 34] : List UInt8) then (if bt118.2.2 = 0 then (if bt118.1.toList = ([120, 32, 121] : List UInt8) then (if bt118.2.1 = 5 then (if bt121.2 = 0 then (some (bt121.1 == 9)) else (some false)) else (some false)) else (some false)) else (some false)) else (some false)) else (some false)))) = some r := H
 have A1 := Aside0.mk A10
 clear A10
 replace H := Option.bind_eq_some_iff.mp H
 obtain ⟨⟨t118, t119, t120⟩, A20, H⟩ := H
 replace H : ((text_Blank.f k (⟨#[32, 40, 97, 32, 40, 98, 41, 41, 32, 99]⟩ : ByteArray)).bind fun bt121 => (if t117 = 0 then (if t116.toList = ([34, 97, 92, 34, 98, 34] : List UInt8) then (if t120 = 0 then (if t118.toList = ([120, 32, 121] : List UInt8) then (if t119 = 5 then (if bt121.2 = 0 then (some (bt121.1 == 9)) else (some false)) else (some false)) else (some false)) else (some false)) else (some false)) else (some false))) = some r := H
 have A2 := Aside0.mk A20
 clear A20
 replace H := Option.bind_eq_some_iff.mp H
 obtain ⟨⟨t121, t122⟩, A30, H⟩ := H
 replace H : (if t117 = 0 then (if t116.toList = ([34, 97, 92, 34, 98, 34] : List UInt8) then (if t120 = 0 then (if t118.toList = ([120, 32, 121] : List UInt8) then (if t119 = 5 then (if t122 = 0 then (some (t121 == 9)) else (some false)) else (some false)) else (some false)) else (some false)) else (some false)) else (some false)) = some r := H
 have A3 := Aside0.mk A30
 clear A30
 by_cases c4 : t117 = 0
 ·rw [if_pos c4] at H
  have c4b0 : (t117 == 0) = true := beq_iff_eq.mpr c4
  have c4b1 : (t117 != 0) = false := bne_eq_false_iff_eq.mpr c4
  clear c4
  by_cases c5 : t116.toList = ([34, 97, 92, 34, 98, 34] : List UInt8)
  ·rw [if_pos c5] at H
   have c5b0 : (t116.toList == ([34, 97, 92, 34, 98, 34] : List UInt8)) = true := beq_iff_eq.mpr c5
   have c5b1 : (t116.toList != ([34, 97, 92, 34, 98, 34] : List UInt8)) = false := bne_eq_false_iff_eq.mpr c5
   clear c5
   by_cases c6 : t120 = 0
   ·rw [if_pos c6] at H
    have c6b0 : (t120 == 0) = true := beq_iff_eq.mpr c6
    have c6b1 : (t120 != 0) = false := bne_eq_false_iff_eq.mpr c6
    clear c6
    by_cases c7 : t118.toList = ([120, 32, 121] : List UInt8)
    ·rw [if_pos c7] at H
     have c7b0 : (t118.toList == ([120, 32, 121] : List UInt8)) = true := beq_iff_eq.mpr c7
     have c7b1 : (t118.toList != ([120, 32, 121] : List UInt8)) = false := bne_eq_false_iff_eq.mpr c7
     clear c7
     by_cases c8 : t119 = 5
     ·rw [if_pos c8] at H
      have c8b0 : (t119 == 5) = true := beq_iff_eq.mpr c8
      have c8b1 : (t119 != 5) = false := bne_eq_false_iff_eq.mpr c8
      clear c8
      by_cases c9 : t122 = 0
      ·rw [if_pos c9] at H
       have c9b0 : (t122 == 0) = true := beq_iff_eq.mpr c9
       have c9b1 : (t122 != 0) = false := bne_eq_false_iff_eq.mpr c9
       clear c9
       obtain rfl := Option.some.inj H
       go_enter Tryd.func13, Tryd.ntmps13
       go_wp2_with (first | ((with_reducible refine gate_callee (f := 34) rfl ?_); refine goesL_ (some 9) rfl rfl Tryd.func34 (by kernel_rfl) rfl #[.string (⟨#[97, 34, 98]⟩ : ByteArray)] rfl ml ?_; (with_reducible refine (text_Quote.calls (⟨#[97, 34, 98]⟩ : ByteArray) t116 t117 _ A1.out).mono ?_); rintro e w10 ⟨rfl, hb⟩; refine ⟨_, rfl, ?_⟩; have n0_ := Aside0.mk (below_step bl hb); clear HB; have HB := n0_; clear n0_; (try clear hb); (try clear hb2); (try clear hk); (try clear hi)) | ((with_reducible refine gate_callee (f := 14) rfl ?_); refine goesL_ (some 13) rfl rfl Tryd.func14 (by kernel_rfl) rfl #[.string (⟨#[34, 120, 32, 121, 34, 32, 122]⟩ : ByteArray)] rfl ml ?_; (with_reducible refine (text_Quoted.calls k (⟨#[34, 120, 32, 121, 34, 32, 122]⟩ : ByteArray) t118 t119 t120 _ A2.out).mono ?_); rintro e w11 ⟨rfl, hb⟩; refine ⟨_, rfl, ?_⟩; have n0_ := Aside0.mk (below_step bl hb); clear HB; have HB := n0_; clear n0_; (try clear hb); (try clear hb2); (try clear hk); (try clear hi)) | ((with_reducible refine gate_callee (f := 10) rfl ?_); refine goesL_ (some 18) rfl rfl Tryd.func10 (by kernel_rfl) rfl #[.string (⟨#[32, 40, 97, 32, 40, 98, 41, 41, 32, 99]⟩ : ByteArray)] rfl ml ?_; (with_reducible refine (text_Blank.calls k (⟨#[32, 40, 97, 32, 40, 98, 41, 41, 32, 99]⟩ : ByteArray) t121 t122 _ A3.out).mono ?_); rintro e w' ⟨rfl, ⟨nd, rfl⟩⟩; refine ⟨_, rfl, ?_⟩))
       go_ret
       exact ⟨by first | rfl | (simp [bneNil]; done) | (simp [errW_none, errW_some] <;> rfl) | (simp [*, errW_none, errW_some] <;> rfl), by repeat (first | (with_reducible first | exact HB.out | apply below_alloc | apply pw_below_drewN | apply below_drew1) | exact HB.out)⟩
      ·rw [if_neg c9] at H
       have c9b0 : (t122 == 0) = false := beq_eq_false_iff_ne.mpr c9
       have c9b1 : (t122 != 0) = true := bne_iff_ne.mpr c9
       obtain rfl := Option.some.inj H
       go_enter Tryd.func13, Tryd.ntmps13
       go_wp2_with (first | ((with_reducible refine gate_callee (f := 34) rfl ?_); refine goesL_ (some 9) rfl rfl Tryd.func34 (by kernel_rfl) rfl #[.string (⟨#[97, 34, 98]⟩ : ByteArray)] rfl ml ?_; (with_reducible refine (text_Quote.calls (⟨#[97, 34, 98]⟩ : ByteArray) t116 t117 _ A1.out).mono ?_); rintro e w12 ⟨rfl, hb⟩; refine ⟨_, rfl, ?_⟩; have n0_ := Aside0.mk (below_step bl hb); clear HB; have HB := n0_; clear n0_; (try clear hb); (try clear hb2); (try clear hk); (try clear hi)) | ((with_reducible refine gate_callee (f := 14) rfl ?_); refine goesL_ (some 13) rfl rfl Tryd.func14 (by kernel_rfl) rfl #[.string (⟨#[34, 120, 32, 121, 34, 32, 122]⟩ : ByteArray)] rfl ml ?_; (with_reducible refine (text_Quoted.calls k (⟨#[34, 120, 32, 121, 34, 32, 122]⟩ : ByteArray) t118 t119 t120 _ A2.out).mono ?_); rintro e w13 ⟨rfl, hb⟩; refine ⟨_, rfl, ?_⟩; have n0_ := Aside0.mk (below_step bl hb); clear HB; have HB := n0_; clear n0_; (try clear hb); (try clear hb2); (try clear hk); (try clear hi)) | ((with_reducible refine gate_callee (f := 10) rfl ?_); refine goesL_ (some 18) rfl rfl Tryd.func10 (by kernel_rfl) rfl #[.string (⟨#[32, 40, 97, 32, 40, 98, 41, 41, 32, 99]⟩ : ByteArray)] rfl ml ?_; (with_reducible refine (text_Blank.calls k (⟨#[32, 40, 97, 32, 40, 98, 41, 41, 32, 99]⟩ : ByteArray) t121 t122 _ A3.out).mono ?_); rintro e w' ⟨rfl, ⟨nd, rfl⟩⟩; refine ⟨_, rfl, ?_⟩))
       go_ret
       exact ⟨by first | rfl | (simp [bneNil]; done) | (simp [errW_none, errW_some] <;> rfl) | (simp [*, errW_none, errW_some] <;> rfl), by repeat (first | (with_reducible first | exact HB.out | apply below_alloc | apply pw_below_drewN | apply below_drew1) | exact HB.out)⟩
     ·rw [if_neg c8] at H
      have c8b0 : (t119 == 5) = false := beq_eq_false_iff_ne.mpr c8
      have c8b1 : (t119 != 5) = true := bne_iff_ne.mpr c8
      obtain rfl := Option.some.inj H
      go_enter Tryd.func13, Tryd.ntmps13
      go_wp2_with (first | ((with_reducible refine gate_callee (f := 34) rfl ?_); refine goesL_ (some 9) rfl rfl Tryd.func34 (by kernel_rfl) rfl #[.string (⟨#[97, 34, 98]⟩ : ByteArray)] rfl ml ?_; (with_reducible refine (text_Quote.calls (⟨#[97, 34, 98]⟩ : ByteArray) t116 t117 _ A1.out).mono ?_); rintro e w14 ⟨rfl, hb⟩; refine ⟨_, rfl, ?_⟩; have n0_ := Aside0.mk (below_step bl hb); clear HB; have HB := n0_; clear n0_; (try clear hb); (try clear hb2); (try clear hk); (try clear hi)) | ((with_reducible refine gate_callee (f := 14) rfl ?_); refine goesL_ (some 13) rfl rfl Tryd.func14 (by kernel_rfl) rfl #[.string (⟨#[34, 120, 32, 121, 34, 32, 122]⟩ : ByteArray)] rfl ml ?_; (with_reducible refine (text_Quoted.calls k (⟨#[34, 120, 32, 121, 34, 32, 122]⟩ : ByteArray) t118 t119 t120 _ A2.out).mono ?_); rintro e w15 ⟨rfl, hb⟩; refine ⟨_, rfl, ?_⟩; have n0_ := Aside0.mk (below_step bl hb); clear HB; have HB := n0_; clear n0_; (try clear hb); (try clear hb2); (try clear hk); (try clear hi)) | ((with_reducible refine gate_callee (f := 10) rfl ?_); refine goesL_ (some 18) rfl rfl Tryd.func10 (by kernel_rfl) rfl #[.string (⟨#[32, 40, 97, 32, 40, 98, 41, 41, 32, 99]⟩ : ByteArray)] rfl ml ?_; (with_reducible refine (text_Blank.calls k (⟨#[32, 40, 97, 32, 40, 98, 41, 41, 32, 99]⟩ : ByteArray) t121 t122 _ A3.out).mono ?_); rintro e w' ⟨rfl, ⟨nd, rfl⟩⟩; refine ⟨_, rfl, ?_⟩))
      go_ret
      exact ⟨by first | rfl | (simp [bneNil]; done) | (simp [errW_none, errW_some] <;> rfl) | (simp [*, errW_none, errW_some] <;> rfl), by repeat (first | (with_reducible first | exact HB.out | apply below_alloc | apply pw_below_drewN | apply below_drew1) | exact HB.out)⟩
    ·rw [if_neg c7] at H
     have c7b0 : (t118.toList == ([120, 32, 121] : List UInt8)) = false := beq_eq_false_iff_ne.mpr c7
     have c7b1 : (t118.toList != ([120, 32, 121] : List UInt8)) = true := bne_iff_ne.mpr c7
     obtain rfl := Option.some.inj H
     go_enter Tryd.func13, Tryd.ntmps13
     go_wp2_with (first | ((with_reducible refine gate_callee (f := 34) rfl ?_); refine goesL_ (some 9) rfl rfl Tryd.func34 (by kernel_rfl) rfl #[.string (⟨#[97, 34, 98]⟩ : ByteArray)] rfl ml ?_; (with_reducible refine (text_Quote.calls (⟨#[97, 34, 98]⟩ : ByteArray) t116 t117 _ A1.out).mono ?_); rintro e w16 ⟨rfl, hb⟩; refine ⟨_, rfl, ?_⟩; have n0_ := Aside0.mk (below_step bl hb); clear HB; have HB := n0_; clear n0_; (try clear hb); (try clear hb2); (try clear hk); (try clear hi)) | ((with_reducible refine gate_callee (f := 14) rfl ?_); refine goesL_ (some 13) rfl rfl Tryd.func14 (by kernel_rfl) rfl #[.string (⟨#[34, 120, 32, 121, 34, 32, 122]⟩ : ByteArray)] rfl ml ?_; (with_reducible refine (text_Quoted.calls k (⟨#[34, 120, 32, 121, 34, 32, 122]⟩ : ByteArray) t118 t119 t120 _ A2.out).mono ?_); rintro e w17 ⟨rfl, hb⟩; refine ⟨_, rfl, ?_⟩; have n0_ := Aside0.mk (below_step bl hb); clear HB; have HB := n0_; clear n0_; (try clear hb); (try clear hb2); (try clear hk); (try clear hi)) | ((with_reducible refine gate_callee (f := 10) rfl ?_); refine goesL_ (some 18) rfl rfl Tryd.func10 (by kernel_rfl) rfl #[.string (⟨#[32, 40, 97, 32, 40, 98, 41, 41, 32, 99]⟩ : ByteArray)] rfl ml ?_; (with_reducible refine (text_Blank.calls k (⟨#[32, 40, 97, 32, 40, 98, 41, 41, 32, 99]⟩ : ByteArray) t121 t122 _ A3.out).mono ?_); rintro e w' ⟨rfl, ⟨nd, rfl⟩⟩; refine ⟨_, rfl, ?_⟩))
     go_ret
     exact ⟨by first | rfl | (simp [bneNil]; done) | (simp [errW_none, errW_some] <;> rfl) | (simp [*, errW_none, errW_some] <;> rfl), by repeat (first | (with_reducible first | exact HB.out | apply below_alloc | apply pw_below_drewN | apply below_drew1) | exact HB.out)⟩
   ·rw [if_neg c6] at H
    have c6b0 : (t120 == 0) = false := beq_eq_false_iff_ne.mpr c6
    have c6b1 : (t120 != 0) = true := bne_iff_ne.mpr c6
    obtain rfl := Option.some.inj H
    go_enter Tryd.func13, Tryd.ntmps13
    go_wp2_with (first | ((with_reducible refine gate_callee (f := 34) rfl ?_); refine goesL_ (some 9) rfl rfl Tryd.func34 (by kernel_rfl) rfl #[.string (⟨#[97, 34, 98]⟩ : ByteArray)] rfl ml ?_; (with_reducible refine (text_Quote.calls (⟨#[97, 34, 98]⟩ : ByteArray) t116 t117 _ A1.out).mono ?_); rintro e w18 ⟨rfl, hb⟩; refine ⟨_, rfl, ?_⟩; have n0_ := Aside0.mk (below_step bl hb); clear HB; have HB := n0_; clear n0_; (try clear hb); (try clear hb2); (try clear hk); (try clear hi)) | ((with_reducible refine gate_callee (f := 14) rfl ?_); refine goesL_ (some 13) rfl rfl Tryd.func14 (by kernel_rfl) rfl #[.string (⟨#[34, 120, 32, 121, 34, 32, 122]⟩ : ByteArray)] rfl ml ?_; (with_reducible refine (text_Quoted.calls k (⟨#[34, 120, 32, 121, 34, 32, 122]⟩ : ByteArray) t118 t119 t120 _ A2.out).mono ?_); rintro e w19 ⟨rfl, hb⟩; refine ⟨_, rfl, ?_⟩; have n0_ := Aside0.mk (below_step bl hb); clear HB; have HB := n0_; clear n0_; (try clear hb); (try clear hb2); (try clear hk); (try clear hi)) | ((with_reducible refine gate_callee (f := 10) rfl ?_); refine goesL_ (some 18) rfl rfl Tryd.func10 (by kernel_rfl) rfl #[.string (⟨#[32, 40, 97, 32, 40, 98, 41, 41, 32, 99]⟩ : ByteArray)] rfl ml ?_; (with_reducible refine (text_Blank.calls k (⟨#[32, 40, 97, 32, 40, 98, 41, 41, 32, 99]⟩ : ByteArray) t121 t122 _ A3.out).mono ?_); rintro e w' ⟨rfl, ⟨nd, rfl⟩⟩; refine ⟨_, rfl, ?_⟩))
    go_ret
    exact ⟨by first | rfl | (simp [bneNil]; done) | (simp [errW_none, errW_some] <;> rfl) | (simp [*, errW_none, errW_some] <;> rfl), by repeat (first | (with_reducible first | exact HB.out | apply below_alloc | apply pw_below_drewN | apply below_drew1) | exact HB.out)⟩
  ·rw [if_neg c5] at H
   have c5b0 : (t116.toList == ([34, 97, 92, 34, 98, 34] : List UInt8)) = false := beq_eq_false_iff_ne.mpr c5
   have c5b1 : (t116.toList != ([34, 97, 92, 34, 98, 34] : List UInt8)) = true := bne_iff_ne.mpr c5
   obtain rfl := Option.some.inj H
   go_enter Tryd.func13, Tryd.ntmps13
   go_wp2_with (first | ((with_reducible refine gate_callee (f := 34) rfl ?_); refine goesL_ (some 9) rfl rfl Tryd.func34 (by kernel_rfl) rfl #[.string (⟨#[97, 34, 98]⟩ : ByteArray)] rfl ml ?_; (with_reducible refine (text_Quote.calls (⟨#[97, 34, 98]⟩ : ByteArray) t116 t117 _ A1.out).mono ?_); rintro e w20 ⟨rfl, hb⟩; refine ⟨_, rfl, ?_⟩; have n0_ := Aside0.mk (below_step bl hb); clear HB; have HB := n0_; clear n0_; (try clear hb); (try clear hb2); (try clear hk); (try clear hi)) | ((with_reducible refine gate_callee (f := 14) rfl ?_); refine goesL_ (some 13) rfl rfl Tryd.func14 (by kernel_rfl) rfl #[.string (⟨#[34, 120, 32, 121, 34, 32, 122]⟩ : ByteArray)] rfl ml ?_; (with_reducible refine (text_Quoted.calls k (⟨#[34, 120, 32, 121, 34, 32, 122]⟩ : ByteArray) t118 t119 t120 _ A2.out).mono ?_); rintro e w21 ⟨rfl, hb⟩; refine ⟨_, rfl, ?_⟩; have n0_ := Aside0.mk (below_step bl hb); clear HB; have HB := n0_; clear n0_; (try clear hb); (try clear hb2); (try clear hk); (try clear hi)) | ((with_reducible refine gate_callee (f := 10) rfl ?_); refine goesL_ (some 18) rfl rfl Tryd.func10 (by kernel_rfl) rfl #[.string (⟨#[32, 40, 97, 32, 40, 98, 41, 41, 32, 99]⟩ : ByteArray)] rfl ml ?_; (with_reducible refine (text_Blank.calls k (⟨#[32, 40, 97, 32, 40, 98, 41, 41, 32, 99]⟩ : ByteArray) t121 t122 _ A3.out).mono ?_); rintro e w' ⟨rfl, ⟨nd, rfl⟩⟩; refine ⟨_, rfl, ?_⟩))
   go_ret
   exact ⟨by first | rfl | (simp [bneNil]; done) | (simp [errW_none, errW_some] <;> rfl) | (simp [*, errW_none, errW_some] <;> rfl), by repeat (first | (with_reducible first | exact HB.out | apply below_alloc | apply pw_below_drewN | apply below_drew1) | exact HB.out)⟩
 ·rw [if_neg c4] at H
  have c4b0 : (t117 == 0) = false := beq_eq_false_iff_ne.mpr c4
  have c4b1 : (t117 != 0) = true := bne_iff_ne.mpr c4
  obtain rfl := Option.some.inj H
  go_enter Tryd.func13, Tryd.ntmps13
  go_wp2_with (first | ((with_reducible refine gate_callee (f := 34) rfl ?_); refine goesL_ (some 9) rfl rfl Tryd.func34 (by kernel_rfl) rfl #[.string (⟨#[97, 34, 98]⟩ : ByteArray)] rfl ml ?_; (with_reducible refine (text_Quote.calls (⟨#[97, 34, 98]⟩ : ByteArray) t116 t117 _ A1.out).mono ?_); rintro e w22 ⟨rfl, hb⟩; refine ⟨_, rfl, ?_⟩; have n0_ := Aside0.mk (below_step bl hb); clear HB; have HB := n0_; clear n0_; (try clear hb); (try clear hb2); (try clear hk); (try clear hi)) | ((with_reducible refine gate_callee (f := 14) rfl ?_); refine goesL_ (some 13) rfl rfl Tryd.func14 (by kernel_rfl) rfl #[.string (⟨#[34, 120, 32, 121, 34, 32, 122]⟩ : ByteArray)] rfl ml ?_; (with_reducible refine (text_Quoted.calls k (⟨#[34, 120, 32, 121, 34, 32, 122]⟩ : ByteArray) t118 t119 t120 _ A2.out).mono ?_); rintro e w23 ⟨rfl, hb⟩; refine ⟨_, rfl, ?_⟩; have n0_ := Aside0.mk (below_step bl hb); clear HB; have HB := n0_; clear n0_; (try clear hb); (try clear hb2); (try clear hk); (try clear hi)) | ((with_reducible refine gate_callee (f := 10) rfl ?_); refine goesL_ (some 18) rfl rfl Tryd.func10 (by kernel_rfl) rfl #[.string (⟨#[32, 40, 97, 32, 40, 98, 41, 41, 32, 99]⟩ : ByteArray)] rfl ml ?_; (with_reducible refine (text_Blank.calls k (⟨#[32, 40, 97, 32, 40, 98, 41, 41, 32, 99]⟩ : ByteArray) t121 t122 _ A3.out).mono ?_); rintro e w' ⟨rfl, ⟨nd, rfl⟩⟩; refine ⟨_, rfl, ?_⟩))
  go_ret
  exact ⟨by first | rfl | (simp [bneNil]; done) | (simp [errW_none, errW_some] <;> rfl) | (simp [*, errW_none, errW_some] <;> rfl), by repeat (first | (with_reducible first | exact HB.out | apply below_alloc | apply pw_below_drewN | apply below_drew1) | exact HB.out)⟩

/-! ### strings_Trim: function 33 (by hand) -/
def strings_Trim.f (a0 a1 : ByteArray) : Option ByteArray := if a0.size ≤ 9223372036854775807 ∧ a1.size < 4294967281 ∧ (a1.data.toList.all fun b => decide (b.toNat < 128)) = true then some ⟨(Lib.trimS a0.data.toList a1.data.toList).toArray⟩ else none
theorem strings_Trim.calls (a0 a1 : ByteArray) (r : ByteArray) (w : World) (h : strings_Trim.f a0 a1 = some r) :
    Calls Tryd.prog 33 #[.string a0, .string a1] w fun e w' => e = .returned (.string r) ∧ Below w.heap.size w w' := by
  unfold strings_Trim.f at h
  by_cases hc : a0.size ≤ 9223372036854775807 ∧ a1.size < 4294967281 ∧ (a1.data.toList.all fun b => decide (b.toNat < 128)) = true
  · rw [if_pos hc] at h
    obtain rfl := Option.some.inj h
    refine Any.strings_Trim_laid Tryd.lays160 (by kernel_rfl) a0 a1 w hc.1 hc.2.1 (fun j b hj => ?_)
    have := List.all_eq_true.1 hc.2.2 b (List.mem_of_getElem? hj)
    simpa using this
  · rw [if_neg hc] at h; cases h


/-! ### text_Number: function 15 (by hand) -/
def digC (c : UInt8) : Bool := decide (48 ≤ c.toNat) && decide (c.toNat ≤ 57)
def numL (l : List UInt8) : Int := l.foldl (fun n c => 10 * n + ((c.toNat : Int) - 48)) 0
def numOK (s : ByteArray) (d : Int) : Bool := !s.data.toList.isEmpty && decide ((s.size : Int) ≤ max 1 (min d 15)) && s.data.toList.all digC
def text_Number.f (a0 : ByteArray) (a1 : Int) : Option (Int × Int) := if a0.size < 70368744177000 then (if numOK a0 a1 = true then some (numL a0.data.toList, 0) else some (0, 5)) else none
theorem numL_snoc (l : List UInt8) (c : UInt8) : numL (l ++ [c]) = 10 * numL l + ((c.toNat : Int) - 48) := by simp [numL]
theorem numL_bd : ∀ (n : Nat) (l : List UInt8), l.length = n → l.all digC = true → 0 ≤ numL l ∧ numL l < 10 ^ n := by
  intro n
  induction n with
  | zero => intro l h _; obtain rfl := List.eq_nil_of_length_eq_zero h; simp [numL]
  | succ n ih =>
    intro l h ha
    obtain ⟨i, c, rfl⟩ : ∃ i c, l = i ++ [c] := by
      have hne : l ≠ [] := by intro e; rw [e] at h; simp at h
      exact ⟨l.dropLast, l.getLast hne, (List.dropLast_concat_getLast hne).symm⟩
    simp at h
    rw [List.all_append, Bool.and_eq_true] at ha
    have := ih i h ha.1
    have hc : 48 ≤ c.toNat ∧ c.toNat ≤ 57 := by simpa [digC] using ha.2
    rw [numL_snoc, Int.pow_succ]
    omega
theorem dropW_nil {p : UInt8 → Bool} : ∀ {l : List UInt8}, l.dropWhile p = [] ↔ ∀ x ∈ l, p x = true
  | [] => by simp
  | a :: l => by
    by_cases h : p a = true
    · simp [List.dropWhile_cons, h, dropW_nil (l := l)]
    · simp [List.dropWhile_cons, h]
theorem trim_nil (p : UInt8 → Bool) (l : List UInt8) : ((l.reverse.dropWhile p).reverse.dropWhile p = []) ↔ l.all p = true := by
  constructor
  · intro h
    have h1 : ∀ x ∈ (l.reverse.dropWhile p).reverse, p x = true := by simpa using dropW_nil.1 h
    have h2 : l.reverse.dropWhile p = [] := by
      cases hd : l.reverse.dropWhile p with
      | nil => rfl
      | cons a t =>
        have ha := h1 a (by rw [hd]; simp)
        have := List.head?_dropWhile_not p l.reverse
        rw [hd] at this
        simp [ha] at this
    rw [List.all_eq_true]
    intro x hx
    have := dropW_nil.1 h2 x (by simpa using hx)
    exact this
  · intro h
    have : l.reverse.dropWhile p = [] := dropW_nil.2 (fun x hx => List.all_eq_true.1 h x (by simpa using hx))
    rw [this]; rfl
theorem dig_has (c : UInt8) : [48, 49, 50, 51, 52, 53, 54, 55, 56, 57].contains c = digC c := by
  have : ∀ n, n < 256 → [48, 49, 50, 51, 52, 53, 54, 55, 56, 57].contains (UInt8.ofNat n) = digC (UInt8.ofNat n) := by decide +kernel
  have h := this c.toNat (UInt8.toNat_lt c)
  rwa [UInt8.ofNat_toNat] at h
theorem trim_digits (s : ByteArray) : Lib.trimS s.data.toList [48, 49, 50, 51, 52, 53, 54, 55, 56, 57] = [] ↔ s.data.toList.all digC = true := by
  unfold Lib.trimS Lib.trimLeftS Lib.trimRightS
  simp only [dig_has]
  exact trim_nil digC _
def numTrim (s : ByteArray) : ByteArray := ⟨(Lib.trimS s.data.toList [48, 49, 50, 51, 52, 53, 54, 55, 56, 57]).toArray⟩
theorem numTrim_nil (s : ByteArray) : (numTrim s).toList = [] ↔ s.data.toList.all digC = true := by
  rw [ByteArray.toList_eq, ← trim_digits]; simp [numTrim]
theorem num_take (s : ByteArray) (k : Nat) (h : k < s.size) : numL (s.data.toList.take (k + 1)) = 10 * numL (s.data.toList.take k) + (((s[k]'h).toNat : Int) - 48) := by
  rw [List.take_succ_eq_append_getElem (by simpa using h), numL_snoc]; rfl
theorem dig_at (s : ByteArray) (ha : s.data.toList.all digC = true) (k : Nat) (h : k < s.size) : 48 ≤ (s[k]'h).toNat ∧ (s[k]'h).toNat ≤ 57 := by
  have h' : k < s.data.toList.length := by simpa using h
  have e : s.data.toList[k]'h' = s[k]'h := by simp; rfl
  have := List.all_eq_true.1 ha (s.data.toList[k]'h') (List.getElem_mem h')
  rw [e] at this
  simpa [digC] using this
theorem bytes_cell_at3 {W w1 : World} {g e : Nat} {s : ByteArray} {C : Array Value} {fz : Nat × Nat} (h : W.heap[g]? = some (.cells C e fz)) (hC : C = Lib.bytesCells w1 e s) (j : Nat) (hj : j < s.size) : W.cell? ⟨g, j, none⟩ = some (.int .u8 ((s[j]'hj).toNat : Nat)) := by
  subst hC
  simp [World.cell?, h, Lib.bytesCells, Array.getElem?_append, hj]
  rfl
set_option maxHeartbeats 1000000 in
set_option maxRecDepth 100000 in
theorem text_Number.calls (a0 : ByteArray) (a1 r1 r2 : Int) (w : World) (h : text_Number.f a0 a1 = some (r1, r2)) :
    Calls Tryd.prog 15 #[.string a0, .int .i64 a1] w fun e w' => e = .returned (.tuple #[.int .i64 r1, .int .i64 r2]) ∧ Below w.heap.size w w' := by
  unfold text_Number.f at h
  by_cases hsz : a0.size < 70368744177000
  · rw [if_pos hsz] at h
    obtain ⟨m1, hm1⟩ : ∃ m, (if 15 < a1 then 15 else a1) = m := ⟨_, rfl⟩
    obtain ⟨m2, hm2⟩ : ∃ m, (if 1 < m1 then m1 else 1) = m := ⟨_, rfl⟩
    have hmm : max 1 (min a1 15) = m2 := by split at hm1 <;> split at hm2 <;> omega
    have hm15 : m2 ≤ 15 := by split at hm1 <;> split at hm2 <;> omega
    by_cases he : a0.toList = ([] : List UInt8)
    · have hf : numOK a0 a1 = false := by unfold numOK; rw [← ByteArray.toList_eq, he]; rfl
      rw [hf] at h
      simp only [Bool.false_eq_true, if_false, Option.some.injEq, Prod.mk.injEq] at h
      obtain ⟨rfl, rfl⟩ := h
      have hb : (a0.toList == ([] : List UInt8)) = true := beq_iff_eq.mpr he
      have hb3 : a0.toList.isEmpty = true := by rw [he]; rfl
      clear hm1 hm2 hmm hf he
      go_enter Tryd.func15, Tryd.ntmps15
      go_wp2
      go_ret2
      exact ⟨rfl, Below.refl _ _⟩
    · have hb : (a0.toList == ([] : List UInt8)) = false := beq_eq_false_iff_ne.mpr he
      have hb3 : a0.toList.isEmpty = false := by cases h : a0.toList <;> simp_all
      have hb4 : a0.data.toList.isEmpty = false := by rw [← ByteArray.toList_eq]; exact hb3
      clear he
      by_cases hl : m2 < (a0.size : Int)
      · have hf : numOK a0 a1 = false := by
          unfold numOK; rw [hmm, decide_eq_false (by omega)]; simp
        rw [hf] at h
        simp only [Bool.false_eq_true, if_false, Option.some.injEq, Prod.mk.injEq] at h
        obtain ⟨rfl, rfl⟩ := h
        have hlb : decide (m2 < (a0.size : Int)) = true := decide_eq_true hl
        clear hmm hf hb4
        go_enter Tryd.func15, Tryd.ntmps15
        go_wp2
        go_ret2
        exact ⟨rfl, Below.refl _ _⟩
      · have hlb : decide (m2 < (a0.size : Int)) = false := decide_eq_false hl
        have hlen : a0.size ≤ 15 := by omega
        have hT : strings_Trim.f a0 ⟨#[48, 49, 50, 51, 52, 53, 54, 55, 56, 57]⟩ = some (numTrim a0) := by
          unfold strings_Trim.f; rw [if_pos ⟨by omega, by decide, by decide⟩]; rfl
        have HT := Lib.hid hT
        clear hT
        have hiff := numTrim_nil a0
        obtain ⟨tr, htr⟩ : ∃ tr, tr = numTrim a0 := ⟨_, rfl⟩
        rw [← htr] at HT hiff
        clear htr
        by_cases ha : a0.data.toList.all digC = true
        · have hf : numOK a0 a1 = true := by
            unfold numOK; rw [hmm, decide_eq_true (by omega), hb4, ha]; rfl
          rw [if_pos hf] at h
          simp only [Option.some.injEq, Prod.mk.injEq] at h
          obtain ⟨rfl, rfl⟩ := h
          have htn := hiff.2 ha
          have t1 : (tr.toList == ([] : List UInt8)) = true := beq_iff_eq.mpr htn
          have t2 : (tr.toList != ([] : List UInt8)) = false := bne_eq_false_iff_eq.mpr htn
          have t3 : tr.toList.isEmpty = true := by rw [htn]; rfl
          have Ha := Lib.hid ha
          clear hmm hf hb4 hiff htn ha
          have hcv := fun W => print_bytes (P := Tryd.prog) 9 44 5 Tryd.underlying9 Tryd.underlying44 Tryd.underlying5 a0 W
          go_enter Tryd.func15, Tryd.ntmps15
          go_wp2_with (go_at_call 33; refine (strings_Trim.calls a0 _ tr _ HT.out).mono ?_; rintro e w1 ⟨rfl, hb1⟩; have HB1 := Lib.hid hb1; clear hb1)
          clear hcv
          have HB := Aside0.mk (bytes_below HB1.out HB1.out.size 5 a0)
          have HG := Lib.hid (Lib.bytesWorld_at_new w1 5 a0)
          obtain ⟨C, hC⟩ : ∃ C, C = Lib.bytesCells w1 5 a0 := ⟨_, rfl⟩
          rw [← hC] at HG
          have HC := Lib.hid hC
          clear hC
          obtain ⟨w3, hw3⟩ : ∃ w3, w3 = Lib.bytesWorld w1 5 a0 := ⟨_, rfl⟩
          rw [← hw3] at HG HB ⊢
          clear hw3
          generalize grownCap w1 a0.size 0 5 = cap
          go_loop [6, 27] (fun v6 v27 => ∃ k : Nat, v27 = .int .i64 k ∧ k ≤ a0.size ∧ v6 = .int .i64 (numL (a0.data.toList.take k))) (fun _ v27 => a0.size - (intOf v27).toNat)
          case atStart => exact ⟨0, rfl, Nat.zero_le _, rfl⟩
          case round =>
            obtain ⟨k, rfl, hk, rfl⟩ := hrel
            by_cases hlt : k < a0.size
            · have hcell : w3.cell? ⟨w1.heap.size, k, none⟩ = some (.int .u8 ((a0[k]'hlt).toNat : Nat)) := bytes_cell_at3 HG.out HC.out k hlt
              have hd := dig_at a0 Ha.out k hlt
              have Hn := Lib.hid (num_take a0 k hlt)
              have hx := numL_bd k (a0.data.toList.take k) (by rw [List.length_take, Array.length_toList]; exact Nat.min_eq_left hk) (by
                rw [List.all_eq_true]; intro x hx; exact List.all_eq_true.1 Ha.out x (List.mem_of_mem_take hx))
              have hp : (10 : Int) ^ k ≤ 1000000000000000 := by
                have : ∀ j, j < 16 → (10 : Int) ^ j ≤ 1000000000000000 := by decide
                exact this k (by omega)
              obtain ⟨hx0, hx1⟩ := hx
              have hx2 : numL (a0.data.toList.take k) ≤ 1000000000000000 := by omega
              clear hx1 hp
              obtain ⟨hd1, hd2⟩ := hd
              obtain ⟨c, hc⟩ : ∃ c : Nat, c = (a0[k]'hlt).toNat := ⟨_, rfl⟩
              rw [← hc] at hcell hd1 hd2 Hn
              clear hc
              obtain ⟨x, hx⟩ : ∃ x : Int, x = numL (a0.data.toList.take k) := ⟨_, rfl⟩
              rw [← hx] at hx0 hx2 Hn ⊢
              clear hx
              have hd1' : 48 ≤ (c : Int) := by omega
              have hd2' : (c : Int) ≤ 57 := by omega
              clear hd1 hd2 hm1 hm2
              go_wp2
              go_round
              case rel => exact ⟨k + 1, by go_num, hlt, by rw [Hn.out]⟩
              case measure => simp [intOf]; omega
            · have hk' : k = a0.size := by omega
              subst hk'
              have HF := Lib.hid (show numL (a0.data.toList.take a0.size) = numL a0.data.toList by rw [List.take_of_length_le (by simp)])
              go_wp2
              go_ret2
              exact ⟨by rw [← HF.out]; rfl, HB.out⟩
        · have hf : numOK a0 a1 = false := by
            unfold numOK; rw [Bool.eq_false_iff.mpr ha]; simp
          rw [hf] at h
          simp only [Bool.false_eq_true, if_false, Option.some.injEq, Prod.mk.injEq] at h
          obtain ⟨rfl, rfl⟩ := h
          have htn : ¬ tr.toList = [] := fun e => ha (hiff.1 e)
          have t1 : (tr.toList == ([] : List UInt8)) = false := beq_eq_false_iff_ne.mpr htn
          have t2 : (tr.toList != ([] : List UInt8)) = true := bne_iff_ne.mpr htn
          have t3 : tr.toList.isEmpty = false := by cases h : tr.toList <;> simp_all
          clear hmm hf hb4 hiff htn ha
          go_enter Tryd.func15, Tryd.ntmps15
          go_wp2_with (go_at_call 33; refine (strings_Trim.calls a0 _ tr _ HT.out).mono ?_; rintro e w1 ⟨rfl, hb1⟩; have HB1 := Lib.hid hb1; clear hb1)
          go_ret2
          exact ⟨rfl, HB1.out⟩
  · rw [if_neg hsz] at h; cases h


end Go.Proofs.YtfeihligcondgaaDoor.Q
end
section
namespace Go.Proofs.YtfeihligcondgaaDoor.Q
open Go.RowKit Go.Proofs.YtfeihligcondgaaDoorW.PrintWords Go.Proofs.YtfeihligcondgaaDoorW.PrintLast Go.Proofs.YtfeihligcondgaaDoorW.PrintMore
attribute [local go_sem] max2_int min2_int max_two min_two max_three min_three max_four min_four   -- for this text's walks alone
set_option linter.unusedVariables false
set_option linter.unusedSimpArgs false

/-! ### text_atomic: function 48 (by hand) -/
def letL : List UInt8 := [33, 35, 36, 37, 38, 39, 42, 43, 45, 47, 61, 63, 94, 95, 96, 123, 124, 125, 126]
def letN (n : Nat) : Bool := (decide (97 ≤ n) && decide (n ≤ 122)) || (decide (65 ≤ n) && decide (n ≤ 90)) || (decide (48 ≤ n) && decide (n ≤ 57)) || letL.any fun c => c.toNat == n
def text_atomic.f (a0 : Int) : Option Bool := if 0 ≤ a0 then (if a0 ≤ 255 then some (letN a0.toNat) else none) else none
theorem let_tab0 : ∀ n, n < 32 → letN n = false := by decide +kernel
theorem let_tab1 : ∀ n, n < 32 → ((Go.bits .and .u32 (2751442170 / 2 ^ n) 1 == 1) = letN (32 + n)) := by decide +kernel
theorem let_tab2 : ∀ n, n < 32 → ((Go.bits .and .u32 (3355443198 / 2 ^ n) 1 == 1) = letN (64 + n)) := by decide +kernel
theorem let_tab3 : ∀ n, n < 32 → ((Go.bits .and .u32 (2147483647 / 2 ^ n) 1 == 1) = letN (96 + n)) := by decide +kernel
theorem let_high : ∀ n, 128 ≤ n → letN n = false := by
  intro n h
  unfold letN letL
  simp
  omega
set_option maxHeartbeats 1000000 in
set_option maxRecDepth 100000 in
theorem text_atomic.calls (a0 : Int) (r : Bool) (w : World) (hG : Glob w) (h : text_atomic.f a0 = some r) :
    Calls Tryd.prog 48 #[.int .u8 a0] w fun e w' => e = .returned (.bool r) ∧ Drawn0 w w' := by
  unfold text_atomic.f at h
  by_cases h0 : 0 ≤ a0
  · rw [if_pos h0] at h
    by_cases h1 : a0 ≤ 255
    · rw [if_pos h1] at h
      obtain ⟨n, rfl⟩ := Int.eq_ofNat_of_zero_le h0
      rw [Int.toNat_natCast] at h
      have hr := Lib.hid (Option.some.inj h)
      clear h
      have g0 := hG.a0
      have g1 := hG.a1
      have g2 := hG.a2
      have g3 := hG.a3
      clear hG
      by_cases hn : n < 128
      · have hb : decide ((n : Int) < 128) = true := decide_eq_true (by omega)
        have hcase : n / 32 = 0 ∨ n / 32 = 1 ∨ n / 32 = 2 ∨ n / 32 = 3 := by omega
        rcases hcase with hq | hq | hq | hq
        · have hl : letN n = false := let_tab0 n (by omega)
          rw [hl] at hr
          go_enter Tryd.func48, Tryd.ntmps48
          go_wp2
          go_ret
          refine ⟨?_, Drawn0.refl _⟩
          rw [← hr.out]
          rfl
        · have hl : letN n = (Go.bits .and .u32 (2751442170 / 2 ^ (n % 32)) 1 == 1) := by rw [let_tab1 _ (Nat.mod_lt _ (by omega))]; congr 1; omega
          rw [hl] at hr
          go_enter Tryd.func48, Tryd.ntmps48
          go_wp2
          go_ret
          refine ⟨?_, Drawn0.refl _⟩
          rw [← hr.out]
          rfl
        · have hl : letN n = (Go.bits .and .u32 (3355443198 / 2 ^ (n % 32)) 1 == 1) := by rw [let_tab2 _ (Nat.mod_lt _ (by omega))]; congr 1; omega
          rw [hl] at hr
          go_enter Tryd.func48, Tryd.ntmps48
          go_wp2
          go_ret
          refine ⟨?_, Drawn0.refl _⟩
          rw [← hr.out]
          rfl
        · have hl : letN n = (Go.bits .and .u32 (2147483647 / 2 ^ (n % 32)) 1 == 1) := by rw [let_tab3 _ (Nat.mod_lt _ (by omega))]; congr 1; omega
          rw [hl] at hr
          go_enter Tryd.func48, Tryd.ntmps48
          go_wp2
          go_ret
          refine ⟨?_, Drawn0.refl _⟩
          rw [← hr.out]
          rfl
      · have hb : decide ((n : Int) < 128) = false := decide_eq_false (by omega)
        rw [let_high n (by omega)] at hr
        go_enter Tryd.func48, Tryd.ntmps48
        go_wp2
        go_ret
        refine ⟨?_, Drawn0.refl _⟩
        rw [← hr.out]
        rfl
    · rw [if_neg h1] at h; cases h
  · rw [if_neg h0] at h; cases h


/-! ### text_Atom: function 16 (by hand) -/
def letC (c : UInt8) : Bool := letN c.toNat
def atomB (s : ByteArray) : Bool := !s.data.toList.isEmpty && s.data.toList.all letC
def text_Atom.f (a0 : ByteArray) : Option Bool := if a0.size < 70368744177000 then some (atomB a0) else none
theorem bytes_cell_at2 {W w1 : World} {g e : Nat} {s : ByteArray} {C : Array Value} {fz : Nat × Nat} (h : W.heap[g]? = some (.cells C e fz)) (hC : C = Lib.bytesCells w1 e s) (j : Nat) (hj : j < s.size) : W.cell? ⟨g, j, none⟩ = some (.int .u8 ((s[j]'hj).toNat : Nat)) := by
  subst hC
  simp [World.cell?, h, Lib.bytesCells, Array.getElem?_append, hj]
  rfl
set_option maxHeartbeats 1000000 in
set_option maxRecDepth 100000 in
theorem atom_not (c : Nat) (hc : c < 256) (w : World) (hG : Glob w) :
    Calls Tryd.prog 47 #[.int .u8 c] w fun e w' => e = .returned (.bool (!letN c)) ∧ Drawn0 w w' := by
  have hf : text_atomic.f (c : Int) = some (letN c) := by unfold text_atomic.f; rw [if_pos (by omega), if_pos (by omega), Int.toNat_natCast]
  have Hf := Lib.hid hf
  clear hf
  have HG := Lib.hid hG
  clear hG
  generalize letN c = b at Hf ⊢
  go_enter Tryd.func47, Tryd.ntmps47
  go_wp2_with (go_at_call 48; refine (text_atomic.calls (c : Int) b _ HG.out Hf.out).mono ?_; rintro e w1 ⟨rfl, ⟨nd, rfl⟩⟩)
  go_ret
  exact ⟨rfl, ⟨nd, rfl⟩⟩
/-- What IndexFunc tells here. -/
def AtomIdx (s : ByteArray) (w : World) (e : Ending) (w' : World) : Prop := ∃ r : Int, e = .returned (.int .i64 r) ∧ decide (0 ≤ r) = !s.data.toList.all letC ∧ Drawn0 w w'
theorem all_take (s : ByteArray) (k : Nat) (h : k < s.size) (p : UInt8 → Bool) : (s.data.toList.take (k + 1)).all p = ((s.data.toList.take k).all p && p (s[k]'h)) := by
  rw [List.take_succ_eq_append_getElem (by simpa using h), List.all_append]
  simp
  rfl
theorem all_not (s : ByteArray) (k : Nat) (h : k < s.size) (p : UInt8 → Bool) (hb : p (s[k]'h) = false) : s.data.toList.all p = false := by
  rw [Bool.eq_false_iff]
  intro ha
  rw [List.all_eq_true] at ha
  have := ha (s[k]'h) (by
    have h' : k < s.data.toList.length := by simpa using h
    have e : s.data.toList[k]'h' = s[k]'h := by simp; rfl
    rw [← e]; exact List.getElem_mem h')
  rw [hb] at this
  cases this
set_option maxHeartbeats 1000000 in
set_option maxRecDepth 100000 in
theorem atom_idx (s : ByteArray) (hs : s.size ≤ 70368744177000) (g cap : Nat) (fz : Nat × Nat) (C : Array Value) (w1 w : World) (hC : C = Lib.bytesCells w1 5 s) (hh : w.heap[g]? = some (.cells C 5 fz)) (hG : Glob w) :
    Calls Tryd.prog 68 #[.slice (some ⟨g, 0, none⟩) s.size cap, .func (.func 47) #[] #[]] w (AtomIdx s w) := by
  have HC := Lib.hid hC
  have HH := Lib.hid hh
  have HG := Lib.hid hG
  clear hC hh hG
  go_enter Tryd.func68, Tryd.ntmps68
  go_wp2
  go_loopw [8] (fun v8 w' => ∃ k : Nat, v8 = .int .i64 k ∧ k ≤ s.size ∧ Aside0 ((s.data.toList.take k).all letC = true) ∧ Drawn0 w w') (fun v8 _ => s.size - (intOf v8).toNat)
  case atStart => exact ⟨0, rfl, Nat.zero_le _, ⟨rfl⟩, Drawn0.refl _⟩
  case round =>
    obtain ⟨k, rfl, hk, Hall, ⟨nd, rfl⟩⟩ := hrel
    by_cases hlt : k < s.size
    · have hcell : (w.drewN nd).cell? ⟨g, k, none⟩ = some (.int .u8 ((s[k]'hlt).toNat : Nat)) := bytes_cell_at2 (W := w.drewN nd) HH.out HC.out k hlt
      have hst := Lib.hid (all_take s k hlt letC)
      have hnt := Lib.hid (all_not s k hlt letC)
      have hc256 : (s[k]'hlt).toNat < 256 := UInt8.toNat_lt _
      unfold letC at hst hnt
      obtain ⟨c, hc⟩ : ∃ c : Nat, c = (s[k]'hlt).toNat := ⟨_, rfl⟩
      rw [← hc] at hcell hc256 hst hnt
      clear hc
      cases hb : letN c with
      | true =>
        have Hb := Lib.hid hb
        clear hb
        have HGd : Hid (Glob (w.drewN nd)) := Lib.hid (HG.out.drawn ⟨nd, rfl⟩)
        go_wp2_with (refine (atom_not c hc256 _ HGd.out).mono ?_; rw [Hb.out]; rintro e w1 ⟨rfl, ⟨nd2, rfl⟩⟩)
        go_roundw
        case rel => exact ⟨k + 1, by go_num, hlt, ⟨by have := hst.out; rw [Hb.out] at this; unfold letC at Hall ⊢; rw [this, Hall.out]; rfl⟩, ⟨⟨_, rfl⟩⟩⟩
        case measure => simp [intOf]; omega
      | false =>
        have Hb := Lib.hid hb
        clear hb
        have HGd : Hid (Glob (w.drewN nd)) := Lib.hid (HG.out.drawn ⟨nd, rfl⟩)
        go_wp2_with (refine (atom_not c hc256 _ HGd.out).mono ?_; rw [Hb.out]; rintro e w1 ⟨rfl, ⟨nd2, rfl⟩⟩)
        go_ret
        refine ⟨(k : Int), rfl, ?_, ⟨⟨_, rfl⟩⟩⟩
        unfold letC
        rw [hnt.out Hb.out]
        exact decide_eq_true (by omega)
    · go_wp2
      go_ret
      have e : k = s.size := by omega
      subst e
      have := Hall.out
      rw [List.take_of_length_le (by simp)] at this
      refine ⟨-1, rfl, ?_, ⟨⟨nd, rfl⟩⟩⟩
      rw [this]; rfl
set_option maxHeartbeats 1000000 in
set_option maxRecDepth 100000 in
theorem atom_has (s : ByteArray) (hs : s.size ≤ 70368744177000) (g cap : Nat) (fz : Nat × Nat) (C : Array Value) (w1 w : World) (hC : C = Lib.bytesCells w1 5 s) (hh : w.heap[g]? = some (.cells C 5 fz)) (hG : Glob w) :
    Calls Tryd.prog 46 #[.slice (some ⟨g, 0, none⟩) s.size cap, .func (.func 47) #[] #[]] w fun e w' => e = .returned (.bool (!s.data.toList.all letC)) ∧ Drawn0 w w' := by
  have HI := Lib.hid (atom_idx s hs g cap fz C w1 w hC hh hG)
  clear hC hh hG
  generalize ha : s.data.toList.all letC = b
  have Ha := Lib.hid ha
  clear ha
  go_enter Tryd.func46, Tryd.ntmps46
  go_wp2_with (go_at_call 68; refine HI.out.mono ?_; rintro e w1 ⟨i, rfl, hi, ⟨nd, rfl⟩⟩; rw [Ha.out] at hi)
  go_ret
  exact ⟨by simp [hi], ⟨nd, rfl⟩⟩
set_option maxHeartbeats 1000000 in
set_option maxRecDepth 100000 in
theorem text_Atom.calls (a0 : ByteArray) (r : Bool) (w : World) (hG : Glob w) (h : text_Atom.f a0 = some r) :
    Calls Tryd.prog 16 #[.string a0] w fun e w' => e = .returned (.bool r) ∧ Below w.heap.size w w' := by
  unfold text_Atom.f at h
  by_cases hsz : a0.size < 70368744177000
  · rw [if_pos hsz] at h
    have hr := Lib.hid (Option.some.inj h)
    clear h
    by_cases he : a0.toList = ([] : List UInt8)
    · have hb : (a0.toList == ([] : List UInt8)) = true := beq_iff_eq.mpr he
      have hb2 : (a0.toList != ([] : List UInt8)) = false := bne_eq_false_iff_eq.mpr he
      have hb3 : a0.toList.isEmpty = true := by rw [he]; rfl
      have hf : atomB a0 = false := by
        unfold atomB; rw [← ByteArray.toList_eq, he]; rfl
      rw [hf] at hr
      clear he hf
      go_enter Tryd.func16, Tryd.ntmps16
      go_wp2
      go_ret
      exact ⟨by rw [← hr.out]; rfl, Below.refl _ _⟩
    · have hb : (a0.toList == ([] : List UInt8)) = false := beq_eq_false_iff_ne.mpr he
      have hb2 : (a0.toList != ([] : List UInt8)) = true := bne_iff_ne.mpr he
      have hb3 : a0.toList.isEmpty = false := by cases h : a0.toList <;> simp_all
      have hf : atomB a0 = !(!a0.data.toList.all letC) := by
        unfold atomB; rw [← ByteArray.toList_eq, hb3, ByteArray.toList_eq]; simp
      rw [hf] at hr
      clear he hf
      have hcv := fun W => print_bytes (P := Tryd.prog) 9 44 5 Tryd.underlying9 Tryd.underlying44 Tryd.underlying5 a0 W
      have HB := Lib.hid (bytes_below (Below.refl w.heap.size w) (Nat.le_refl _) 5 a0)
      have HA := Lib.hid (atom_has a0 (by omega) w.heap.size (grownCap w a0.size 0 5) _ _ w _ rfl (Lib.bytesWorld_at_new w 5 a0) (hG.below HB.out))
      clear hG
      generalize (!a0.data.toList.all letC) = b at HA hr
      go_enter Tryd.func16, Tryd.ntmps16
      go_wp2_with (go_at_call 46; refine HA.out.mono ?_; rintro e w1 ⟨rfl, ⟨nd, rfl⟩⟩)
      go_ret
      exact ⟨by rw [← hr.out]; rfl, pw_below_drewN HB.out _⟩
  · rw [if_neg hsz] at h; cases h


/-! ### strings_IndexByte: function 11 (by hand) -/
def strings_IndexByte.f (a0 : ByteArray) (a1 : Int) : Option Int := some (Lib.indexByte a0.data.toList a1.toNat.toUInt8)
theorem strings_IndexByte.calls (a0 : ByteArray) (a1 : Int) (r : Int) (w : World) (h : strings_IndexByte.f a0 a1 = some r) :
    Calls Tryd.prog 11 #[.string a0, .int .u8 a1] w fun e w' => e = .returned (.int .i64 r) ∧ Drawn0 w w' := by
  obtain rfl := Option.some.inj h
  refine (Tryd.strings_IndexByte a0 a1 w).mono ?_
  rintro e w' ⟨rfl, rfl⟩
  exact ⟨rfl, Drawn0.refl _⟩


/-! ### text_Split: function 21 -/
def text_Split.l0 : Nat → ByteArray → Int → List ByteArray → Option (List ByteArray)
 | 0, _, _, _ => none
 | k + 1, x0, x1, x5 => (strings_IndexByte.f x0 x1).bind fun t123 => (if t123 < 0 then (if x5.length < 8796093022208 then (some (x5 ++ [x0])) else (none)) else (if 0 ≤ t123 then (if t123 ≤ (x0.size : Int) then (if x5.length < 8796093022208 then (if 0 ≤ (wrap64 (t123 + 1)) then (if (wrap64 (t123 + 1)) ≤ (x0.size : Int) then (text_Split.l0 k (x0.extract ((wrap64 (t123 + 1)) : Int).toNat x0.size) x1 (x5 ++ [x0.extract 0 (t123 : Int).toNat])) else (none)) else (none)) else (none)) else (none)) else (none)))
def text_Split.f (k : Nat) (a0 : ByteArray) (a1 : Int) : Option (List ByteArray) := text_Split.l0 k a0 a1 ([] : List ByteArray)
theorem text_Split.mono_l : ∀ k, (∀ y0 y1 y2, LeO (text_Split.l0 k y0 y1 y2) (text_Split.l0 (k + 1) y0 y1 y2))
 | 0 => fun _ _ _ r h => by simp [text_Split.l0] at h
 | k + 1 => by
  have ih0 := text_Split.mono_l k
  ·intro y0 y1 y2
   unfold text_Split.l0
   repeat' first
   | (with_reducible exact ih0 _ _ _)
   | (with_reducible exact LeO.refl _)
   | (with_reducible exact LeO.none _)
   | (with_reducible refine LeO.ite ?_ ?_)
   | (with_reducible refine LeO.bind ?_ (fun _ => ?_))
   | exact ih0 _ _ _
   | exact LeO.none _
   | refine LeO.ite ?_ ?_
   | refine LeO.bind ?_ (fun _ => ?_)
theorem text_Split.mono : ∀ a0 a1 k, LeO (text_Split.f k a0 a1) (text_Split.f (k + 1) a0 a1) := by
 intro a0 a1 k
 have ih0 := text_Split.mono_l k
 unfold text_Split.f
 repeat' first
   | (with_reducible exact ih0 _ _ _)
   | (with_reducible exact LeO.refl _)
   | (with_reducible exact LeO.none _)
   | (with_reducible refine LeO.ite ?_ ?_)
   | (with_reducible refine LeO.bind ?_ (fun _ => ?_))
   | exact ih0 _ _ _
   | exact LeO.none _
   | refine LeO.ite ?_ ?_
   | refine LeO.bind ?_ (fun _ => ?_)
def text_Split.T5 : Bool × List (List Nat × List Nat) := (true, [([], []), ([], []), ([], []), ([1, 2], [1, 2]), ([3], [3]), ([0, 4], [0, 4]), ([], []), ([], []), ([7], [7]), ([6, 8], [6, 8]), ([5, 5, 0, 1, 2, 3, 4, 5], [0, 5]), ([9, 10, 0, 1, 2, 3, 4, 5, 6, 7, 8, 9, 10], [1, 6, 9])])
def text_Split.B5 : List Nat := [0, 0, 0, 6, 14, 31, 0, 0, 128, 448, 63, 2047]
theorem text_Split.tab5 : rtab .any (opsOf Tryd.f21 5) = text_Split.T5 := by kernel_rfl
theorem text_Split.bits5 : waitsOk text_Split.T5.2 text_Split.B5 = true := by kernel_rfl
set_option maxHeartbeats 8000000 in
set_option maxRecDepth 100000 in
theorem text_Split.calls (k : Nat) (a0 : ByteArray) (a1 : Int) (r : List ByteArray) (w : World) (h : text_Split.f k a0 a1 = some r) :
  Calls Tryd.prog 21 #[.string a0, .int .u8 a1] w fun e w' => ∃ v0_ : Value, e = .returned (v0_) ∧ Kd.R Kd.string 9 w' w.heap.size (fun _ => True) v0_ r ∧ Below w.heap.size w w' := by
 have HB := Aside0.mk (Below.refl w.heap.size w)
 have H : (text_Split.l0 k a0 a1 ([] : List ByteArray)) = some r := h
 clear h
 have H' := Aside0.mk H
 clear H
 go_enter Tryd.func21, Tryd.ntmps21
 go_wp2
 go_loopg [0, 5] k (fun kq v0 v5 w' => ∃ (x0_1 : ByteArray) (x5_1 : List ByteArray), v0 = .string x0_1 ∧ Aside0 (text_Split.l0 kq x0_1 a1 x5_1 = some r) ∧ Aside0 (kq ≤ k) ∧ Aside0 (Kd.R Kd.string 9 w' w.heap.size (fun _ => True) v5 x5_1) ∧ Aside0 (Below w.heap.size w w'))
 case atStart => exact ⟨(a0), (([] : List ByteArray)), (by first | rfl | (simp; done) | (simp [*]; done)), H', ⟨Nat.le_refl _⟩, ⟨by first | exact Kd.R_nil _ _ _ _ _ | exact Kd.N_nil _ _ _ _ _ | exact Kd.V_nil _ _ _ _ _ | exact Kd.Q_nil _ _ _ _ _ | exact Kd.S_nil _ _ _ _ _⟩, ⟨by repeat (first | (with_reducible first | exact HB.out | apply below_alloc | apply pw_below_drewN | apply below_drew1) | exact HB.out)⟩⟩
 case round =>
  clear H'
  try clear c2
  try clear p2
  obtain ⟨x0_1, x5_1, rfl, HA, HK1, HO_5, HB⟩ := hrel
  cases gk with
  | zero => exact absurd HA.out (by simp [text_Split.l0])
  | succ k1 =>
   have H := HA.out
   clear HA
   simp only [text_Split.l0] at H
   replace H := Option.bind_eq_some_iff.mp H
   obtain ⟨t123, A30, H⟩ := H
   replace H : (if t123 < 0 then (if x5_1.length < 8796093022208 then (some (x5_1 ++ [x0_1])) else (none)) else (if 0 ≤ t123 then (if t123 ≤ (x0_1.size : Int) then (if x5_1.length < 8796093022208 then (if 0 ≤ (wrap64 (t123 + 1)) then (if (wrap64 (t123 + 1)) ≤ (x0_1.size : Int) then (text_Split.l0 k1 (x0_1.extract ((wrap64 (t123 + 1)) : Int).toNat x0_1.size) a1 (x5_1 ++ [x0_1.extract 0 (t123 : Int).toNat])) else (none)) else (none)) else (none)) else (none)) else (none))) = some r := H
   have A3 := Aside0.mk A30
   clear A30
   by_cases c4 : t123 < 0
   ·rw [if_pos c4] at H
    have c4b0 : decide (t123 < 0) = true := decide_eq_true c4
    clear c4
    by_cases c5 : x5_1.length < 8796093022208
    ·rw [if_pos c5] at H
     have LMc5 := Aside0.mk c5
     clear c5
     obtain ⟨y124, hy124⟩ : ∃ y_ : List ByteArray, y_ = (x5_1 ++ [x0_1]) := ⟨_, rfl⟩
     replace H : (some y124) = some r := by first | (rw [hy124]; with_reducible exact H) | (have H2_ := (Option.bind_some _ _).symm.trans H; rw [hy124]; with_reducible exact H2_) | (have H2_ := (Option.bind_some _ _).symm.trans H; with_reducible exact H2_) | with_reducible exact H | (rw [hy124]; exact H) | exact H
     have Ny124 := Aside0.mk hy124
     clear hy124
     obtain rfl := Option.some.inj H
     go_wp2_with (first | ((with_reducible refine gate_callee (f := 11) rfl ?_); refine goesL_ (some 9) rfl rfl Tryd.func11 (by kernel_rfl) rfl #[.string x0_1, .int .u8 a1] rfl ml ?_; (with_reducible refine (strings_IndexByte.calls x0_1 a1 t123 _ A3.out).mono ?_); rintro e w' ⟨rfl, ⟨nd, rfl⟩⟩; refine ⟨_, rfl, ?_⟩) | ((with_reducible refine gate_builtin (b := .append) (xs := #[.tmp 12, .tmp 14]) rfl ?_); at_builtin; refine Kd.R_append Kd.string (w0 := w) w.heap.size rfl (.tmp 12) (.tmp 14) 22 9 (.string ⟨#[]⟩) 16 rfl Tryd.underlying22 info9 rfl (by decide) (by omega) u5 x5_1 x0_1 [.string x0_1] (fun _ => True) (fun _ => False) rfl rfl ?aP (fun _ hk => hk.elim) ?aF ?aO ?aB ?aS ?aL ?_; (case aP => exact rfl); (case aB => exact bl); (case aF => exact (fun _ _ => trivial)); (case aO => exact (kr HO_5.out)); (case aS => exact (below_size bl)); (case aL => have := LMc5.out; omega); intro v125 w6 ho hb hg hat; rw [← Ny124.out] at ho; have n0_ := Aside0.mk (hb); have n1_ := Aside0.mk (ho); clear HB; clear HO_5; have HB := n0_; have HO126 := n1_; clear n0_ n1_; clear ho hb hg hat))
     go_ret
     exact ⟨_, by first | rfl | (simp [errW_none, errW_some] <;> rfl) | (simp [*, errW_none, errW_some] <;> rfl), by (with_reducible repeat (first | apply Kd.R_alloc | apply Kd.R_drewN | apply Kd.R_drew)); exact HO126.out, by repeat (first | (with_reducible first | exact HB.out | apply below_alloc | apply pw_below_drewN | apply below_drew1) | exact HB.out)⟩
    ·rw [if_neg c5] at H
     exact absurd H (by simp)
   ·rw [if_neg c4] at H
    have c4b0 : decide (t123 < 0) = false := decide_eq_false c4
    clear c4
    by_cases c7 : 0 ≤ t123
    ·rw [if_pos c7] at H
     have c7b0 := eq_true c7
     have c7b1 : decide (0 ≤ t123) = true := decide_eq_true c7
     clear c7
     by_cases c8 : t123 ≤ (x0_1.size : Int)
     ·rw [if_pos c8] at H
      have c8b0 := eq_true c8
      have c8b1 : decide (t123 ≤ (x0_1.size : Int)) = true := decide_eq_true c8
      clear c8
      by_cases c9 : x5_1.length < 8796093022208
      ·rw [if_pos c9] at H
       have LMc9 := Aside0.mk c9
       clear c9
       obtain ⟨y127, hy127⟩ : ∃ y_ : List ByteArray, y_ = (x5_1 ++ [x0_1.extract 0 (t123 : Int).toNat]) := ⟨_, rfl⟩
       replace H : (if 0 ≤ (wrap64 (t123 + 1)) then (if (wrap64 (t123 + 1)) ≤ (x0_1.size : Int) then (text_Split.l0 k1 (x0_1.extract ((wrap64 (t123 + 1)) : Int).toNat x0_1.size) a1 y127) else (none)) else (none)) = some r := by first | (rw [hy127]; with_reducible exact H) | (have H2_ := (Option.bind_some _ _).symm.trans H; rw [hy127]; with_reducible exact H2_) | (have H2_ := (Option.bind_some _ _).symm.trans H; with_reducible exact H2_) | with_reducible exact H | (rw [hy127]; exact H) | exact H
       have Ny127 := Aside0.mk hy127
       clear hy127
       obtain ⟨ji10, hji10⟩ : ∃ j_ : Int, (wrap64 (t123 + 1)) = j_ := ⟨_, rfl⟩
       replace H : (if 0 ≤ (ji10) then (if (ji10) ≤ (x0_1.size : Int) then (text_Split.l0 k1 (x0_1.extract ((ji10) : Int).toNat x0_1.size) a1 y127) else (none)) else (none)) = some r := by first | (rw [hji10] at H; exact H) | (simp only [hji10] at H ⊢; exact H)
       (try rw [hji10] at A3)
       have hji10w : (IntKind.i64.wrap (t123 + 1)) = ji10 := (i64_w _).trans hji10
       by_cases c11 : 0 ≤ (ji10)
       ·rw [if_pos c11] at H
        have c11b0 := eq_true c11
        have c11b1 : decide (0 ≤ (ji10)) = true := decide_eq_true c11
        clear c11
        by_cases c12 : (ji10) ≤ (x0_1.size : Int)
        ·rw [if_pos c12] at H
         have c12b0 := eq_true c12
         have c12b1 : decide ((ji10) ≤ (x0_1.size : Int)) = true := decide_eq_true c12
         clear c12
         have H' := Aside0.mk H
         clear H
         try go_wp2_with (first | ((with_reducible refine gate_callee (f := 11) rfl ?_); refine goesL_ (some 9) rfl rfl Tryd.func11 (by kernel_rfl) rfl #[.string x0_1, .int .u8 a1] rfl ml ?_; (with_reducible refine (strings_IndexByte.calls x0_1 a1 t123 _ A3.out).mono ?_); rintro e w' ⟨rfl, ⟨nd, rfl⟩⟩; refine ⟨_, rfl, ?_⟩))
         (try (rw [drewN_self wr]; generalize hq_ : World.drewN wr _ = wr; have n0_ : Aside0 (Kd.R Kd.string 9 wr w.heap.size (fun _ => True) u5 x5_1) := ⟨by rw [← hq_]; exact (kr HO_5.out)⟩; have n1_ : Aside0 (Below w.heap.size w wr) := ⟨by rw [← hq_]; exact bl⟩; clear HO_5 HB hq_; have HO_5 := n0_; have HB := n1_; clear n0_ n1_))
         have n0_ := Aside0.mk (Kd.R_drew HO_5.out)
         have n1_ := Aside0.mk (below_drew1 HB.out)
         clear HO_5
         clear HB
         have HO_5 := n0_
         have HB := n1_
         clear n0_ n1_
         refine start_ (n := 12) (S := fun w' => True) (ds := []) #[false, false, false, false, false, false, false, false, false, false, false, false] (by kernel_rfl) rfl rfl trivial (fun hHeld => ?_); refine with_tabW text_Split.tab5 text_Split.bits5 (fun HT_ HW_ => ?_)
         generalize wr.drew = w13 at HO_5 HB hHeld ⊢
         refine pure_ (i := 0) (N := some 16) (v := ?_) (a' := ?_) #[true, false, false, false, false, false, false, false, false, false, false, false] rfl rfl (any_of HT_.out (by kernel_rfl)) (fun _ _ _ h => h) (Or.inl ⟨by rfl, ?_⟩) ?_ ?_
         rotate_left
         ·intro w'
          go_simp
          with_reducible rfl
         rotate_left
         ·simp only [Act.put, List.setIfInBounds_toArray, List.set_cons_zero, List.set_cons_succ, i64_w, i32_w]
          rfl
         refine pure_ (i := 1) (N := some 17) (v := ?_) (a' := ?_) #[true, true, false, false, false, false, false, false, false, false, false, false] rfl rfl (any_of HT_.out (by kernel_rfl)) (fun _ _ _ h => h) (Or.inl ⟨by rfl, ?_⟩) ?_ ?_
         rotate_left
         ·intro w'
          go_simp
          with_reducible rfl
         rotate_left
         ·simp only [Act.put, List.setIfInBounds_toArray, List.set_cons_zero, List.set_cons_succ, i64_w, i32_w]
          rfl
         refine pure_ (i := 2) (N := some 18) (v := ?_) (a' := ?_) #[true, true, true, false, false, false, false, false, false, false, false, false] rfl rfl (any_of HT_.out (by kernel_rfl)) (fun _ _ _ h => h) (Or.inl ⟨by rfl, ?_⟩) ?_ ?_
         rotate_left
         ·intro w'
          go_simp
          with_reducible rfl
         rotate_left
         ·simp only [Act.put, List.setIfInBounds_toArray, List.set_cons_zero, List.set_cons_succ, i64_w, i32_w]
          rfl
         refine pure_ (i := 3) (N := some 19) (v := ?_) (a' := ?_) #[true, true, true, true, false, false, false, false, false, false, false, false] rfl rfl (any_of HT_.out (by kernel_rfl)) (fun _ _ _ h => h) (Or.inl ⟨by rfl, ?_⟩) ?_ ?_
         rotate_left
         ·intro w'
          go_simp
          with_reducible rfl
         rotate_left
         ·simp only [Act.put, List.setIfInBounds_toArray, List.set_cons_zero, List.set_cons_succ, i64_w, i32_w]
          rfl
         refine pure_ (i := 6) (N := some 22) (v := ?_) (a' := ?_) #[true, true, true, true, false, false, true, false, false, false, false, false] rfl rfl (any_of HT_.out (by kernel_rfl)) (fun _ _ _ h => h) (Or.inl ⟨by rfl, ?_⟩) ?_ ?_
         rotate_left
         ·intro w'
          go_simp
          with_reducible rfl
         rotate_left
         ·simp only [Act.put, List.setIfInBounds_toArray, List.set_cons_zero, List.set_cons_succ, i64_w, i32_w]
          rfl
         refine pure_ (i := 7) (N := some 23) (v := ?_) (a' := ?_) #[true, true, true, true, false, false, true, true, false, false, false, false] rfl rfl (any_of HT_.out (by kernel_rfl)) (fun _ _ _ h => h) (Or.inl ⟨by rfl, ?_⟩) ?_ ?_
         rotate_left
         ·intro w'
          go_simp
          with_reducible rfl
         rotate_left
         ·simp only [Act.put, List.setIfInBounds_toArray, List.set_cons_zero, List.set_cons_succ, i64_w, i32_w]
          rfl
         refine pure_ (i := 8) (N := some 24) (v := ?_) (a' := ?_) #[true, true, true, true, false, false, true, true, true, false, false, false] rfl rfl (any_of HT_.out (by kernel_rfl)) (fun _ _ _ h => h) (Or.inl ⟨by rfl, ?_⟩) ?_ ?_
         rotate_left
         ·intro w'
          go_simp
          with_reducible rfl
         rotate_left
         ·simp only [Act.put, List.setIfInBounds_toArray, List.set_cons_zero, List.set_cons_succ, i64_w, i32_w]
          rfl
         refine pure_ (i := 9) (N := some 25) (v := ?_) (a' := ?_) #[true, true, true, true, false, false, true, true, true, true, false, false] rfl rfl (any_of HT_.out (by kernel_rfl)) (fun _ _ _ h => h) (Or.inl ⟨by rfl, ?_⟩) ?_ ?_
         rotate_left
         ·intro w'
          go_simp
          with_reducible rfl
         rotate_left
         ·simp only [Act.put, List.setIfInBounds_toArray, List.set_cons_zero, List.set_cons_succ, i64_w, i32_w]
          rfl
         refine one_ (i := 4) (N := some 20) #[true, true, true, true, true, false, true, true, true, true, false, false] rfl rfl (one_of HT_.out (by kernel_rfl)) (by decide) (fun K hK => ?_)
         refine value_ (w1 := ?_) (v := ?_) (by rfl) rfl ?_ ?_
         rotate_left 2
         ·go_simp
          constructor
          ·rfl
          ·rfl
         refine hK.out _ _ trivial (fun hHeld => ?_)
         clear hK K
         refine norm_ (a' := ?_) ?_ ?_
         rotate_left
         ·show Act.put _ (some 20) _ = _
          simp only [Act.put, List.setIfInBounds_toArray, List.set_cons_zero, List.set_cons_succ, i64_w, i32_w]
          rfl
         refine one_ (i := 5) (N := some 21) #[true, true, true, true, true, true, true, true, true, true, false, false] rfl rfl (one_of HT_.out (by kernel_rfl)) (by decide) (fun K hK => ?_)
         refine Kd.R_append_step Kd.string (w0 := w) w.heap.size (by rfl) (.tmp 16) (.tmp 20) 22 9 (.string ⟨#[]⟩) 16 rfl Tryd.underlying22 info9 rfl (by decide) (by omega) u5 x5_1 (x0_1.extract 0 (t123 : Int).toNat) [.string (x0_1.extract 0 (t123 : Int).toNat)] (fun _ => True) (fun _ => False) rfl rfl ?aP (fun _ hk => hk.elim) ?aF ?aO ?aB ?aS ?aL ?_
         (case aP => exact rfl)
         (case aB => exact bl)
         (case aF => exact (fun _ _ => trivial))
         (case aO => exact (kr HO_5.out))
         (case aS => exact (below_size bl))
         (case aL => have := LMc9.out; omega)
         intro v128 w14 ho hb hg hat
         rw [← Ny127.out] at ho
         have n0_ := Aside0.mk (hb)
         have n1_ := Aside0.mk (ho)
         clear HB
         clear HO_5
         have HB := n0_
         have HO129 := n1_
         clear n0_ n1_
         clear ho hb hg hat
         refine hK.out _ _ trivial (fun hHeld => ?_)
         clear hK K
         refine norm_ (a' := ?_) ?_ ?_
         rotate_left
         ·show Act.put _ (some 21) _ = _
          simp only [Act.put, List.setIfInBounds_toArray, List.set_cons_zero, List.set_cons_succ, i64_w, i32_w]
          rfl
         refine pure_ (i := 10) (N := some 5) (v := ?_) (a' := ?_) #[true, true, true, true, true, true, true, true, true, true, true, false] rfl rfl (any_of HT_.out (by kernel_rfl)) (fun _ _ _ h => h) (Or.inl ⟨by rfl, ?_⟩) ?_ ?_
         rotate_left
         ·intro w'
          go_simp
          with_reducible rfl
         rotate_left
         ·simp only [Act.put, List.setIfInBounds_toArray, List.set_cons_zero, List.set_cons_succ, i64_w, i32_w]
          rfl
         refine pure_ (i := 11) (N := some 0) (v := ?_) (a' := ?_) #[true, true, true, true, true, true, true, true, true, true, true, true] rfl rfl (any_of HT_.out (by kernel_rfl)) (fun _ _ _ h => h) (Or.inl ⟨by rfl, ?_⟩) ?_ ?_
         rotate_left
         ·intro w'
          go_simp
          with_reducible rfl
         rotate_left
         ·simp only [Act.put, List.setIfInBounds_toArray, List.set_cons_zero, List.set_cons_succ, i64_w, i32_w]
          rfl
         refine done_ (done_of HT_.out (by kernel_rfl)) ?_
         try go_wp2
         go_roundg k1
         case measure => have := HK1.out; omega
         case rel => exact ⟨(x0_1.extract ((ji10) : Int).toNat x0_1.size), (y127), (by first | rfl | (simp; done) | (simp only [← hji10] <;> (first | rfl | simp)) | (simp [*]; done)), H', ⟨by have := HK1.out; omega⟩, ⟨by (with_reducible repeat (first | apply Kd.R_alloc | apply Kd.R_drewN | apply Kd.R_drew)); exact HO129.out⟩, ⟨by repeat (first | (with_reducible first | exact HB.out | apply below_alloc | apply pw_below_drewN | apply below_drew1) | exact HB.out)⟩⟩
        ·rw [if_neg c12] at H
         exact absurd H (by simp)
       ·rw [if_neg c11] at H
        exact absurd H (by simp)
      ·rw [if_neg c9] at H
       exact absurd H (by simp)
     ·rw [if_neg c8] at H
      exact absurd H (by simp)
    ·rw [if_neg c7] at H
     exact absurd H (by simp)

/-! ### text_DotAtom: function 17 (by hand) -/
def dotAll (l : List ByteArray) : Bool := l.all atomB
def dotSmall (l : List ByteArray) : Bool := l.all fun x => decide (x.size < 70368744177000)
def text_DotAtom.f (k : Nat) (a0 : ByteArray) : Option Bool := (text_Split.f k a0 46).bind fun t => if dotSmall t = true then some (dotAll t) else none
theorem text_DotAtom.mono : ∀ a0 k, LeO (text_DotAtom.f k a0) (text_DotAtom.f (k + 1) a0) := fun a0 k => LeO.bind (text_Split.mono _ _ k) (fun _ => LeO.refl _)
set_option maxHeartbeats 1000000 in
set_option maxRecDepth 100000 in
theorem dot_not (s : ByteArray) (hs : s.size < 70368744177000) (w : World) (hG : Glob w) :
    Calls Tryd.prog 50 #[.string s] w fun e w' => e = .returned (.bool (!atomB s)) ∧ Below w.heap.size w w' := by
  have hf : text_Atom.f s = some (atomB s) := by unfold text_Atom.f; rw [if_pos hs]
  have Hf := Lib.hid hf
  clear hf
  have HG := Lib.hid hG
  clear hG
  generalize atomB s = b at Hf ⊢
  go_enter Tryd.func50, Tryd.ntmps50
  go_wp2_with (go_at_call 16; refine (text_Atom.calls s b _ HG.out Hf.out).mono ?_; rintro e w1 ⟨rfl, hb⟩)
  go_ret
  exact ⟨rfl, hb⟩
def DotIdx (l : List ByteArray) (w : World) (e : Ending) (w' : World) : Prop := ∃ r : Int, e = .returned (.int .i64 r) ∧ decide (0 ≤ r) = !dotAll l ∧ Below w.heap.size w w'
theorem dot_take (l : List ByteArray) (k : Nat) (h : k < l.length) : dotAll (l.take (k + 1)) = (dotAll (l.take k) && atomB l[k]) := by
  unfold dotAll
  rw [List.take_succ_eq_append_getElem h, List.all_append]
  simp
theorem dot_no (l : List ByteArray) (k : Nat) (h : k < l.length) (hb : atomB l[k] = false) : dotAll l = false := by
  unfold dotAll
  rw [Bool.eq_false_iff]
  intro ha
  have := List.all_eq_true.1 ha l[k] (List.getElem_mem h)
  rw [hb] at this
  cases this
set_option maxHeartbeats 1000000 in
set_option maxRecDepth 100000 in
theorem dot_idx (l : List ByteArray) (hs : dotSmall l = true) (hl : l.length ≤ 9223372036854775807) (A : Option Addr) (c : Nat) (w : World) (hC : ReadsOf Value.string ByteArray.empty w A l.length l) (hG : Glob w) :
    Calls Tryd.prog 69 #[.slice A l.length c, .func (.func 50) #[] #[]] w (DotIdx l w) := by
  have HS := Lib.hid hs
  have HC := Lib.hid hC
  have HG := Lib.hid hG
  clear hs hC hG
  go_enter Tryd.func69, Tryd.ntmps69
  go_wp2
  go_loopw [8] (fun v8 w' => ∃ k : Nat, v8 = .int .i64 k ∧ k ≤ l.length ∧ Aside0 (dotAll (l.take k) = true) ∧ Aside0 (Below w.heap.size w w')) (fun v8 _ => l.length - (intOf v8).toNat)
  case atStart => exact ⟨0, rfl, Nat.zero_le _, ⟨rfl⟩, ⟨Below.refl _ _⟩⟩
  case round =>
    obtain ⟨k, rfl, hk, Hall, HB⟩ := hrel
    by_cases hlt : k < l.length
    · obtain ⟨ad, hA, hcell⟩ := (HC.out.below HB.out).at_ (k : Int) (by omega) (by omega)
      rw [Int.toNat_natCast] at hcell
      have ex : rdOf ByteArray.empty l (k : Int) = l[k]'hlt := by simp [rdOf, hlt]
      rw [ex] at hcell
      clear ex
      have hst := Lib.hid (dot_take l k hlt)
      have hnt := Lib.hid (dot_no l k hlt)
      have hsm : (l[k]'hlt).size < 70368744177000 := by
        have := List.all_eq_true.1 HS.out (l[k]'hlt) (List.getElem_mem hlt)
        simpa using this
      obtain ⟨x, hx⟩ : ∃ x : ByteArray, x = l[k]'hlt := ⟨_, rfl⟩
      rw [← hx] at hcell hst hnt hsm
      clear hx
      have HGw : Hid (Glob wr) := Lib.hid (HG.out.below HB.out)
      have HSm := Lib.hid hsm
      clear hsm
      cases hb : atomB x with
      | true =>
        have Hb := Lib.hid hb
        clear hb
        subst hA
        go_wp2_with (refine (dot_not x HSm.out _ HGw.out).mono ?_; rw [Hb.out]; rintro e w1 ⟨rfl, hb1⟩; have HB1 := Lib.hid hb1; clear hb1)
        go_roundw
        case rel => exact ⟨k + 1, by go_num, hlt, ⟨by rw [hst.out, Hall.out, Hb.out]; rfl⟩, ⟨HB.out.trans (HB1.out.mono HB.out.size)⟩⟩
        case measure => simp [intOf]; omega
      | false =>
        have Hb := Lib.hid hb
        clear hb
        subst hA
        go_wp2_with (refine (dot_not x HSm.out _ HGw.out).mono ?_; rw [Hb.out]; rintro e w1 ⟨rfl, hb1⟩; have HB1 := Lib.hid hb1; clear hb1)
        go_ret
        refine ⟨(k : Int), rfl, ?_, HB.out.trans (HB1.out.mono HB.out.size)⟩
        rw [hnt.out Hb.out]
        exact decide_eq_true (by omega)
    · go_wp2
      go_ret
      have e : k = l.length := by omega
      subst e
      have := Hall.out
      rw [List.take_of_length_le (Nat.le_refl _)] at this
      refine ⟨-1, rfl, ?_, HB.out⟩
      rw [this]; rfl
set_option maxHeartbeats 1000000 in
set_option maxRecDepth 100000 in
theorem dot_has (l : List ByteArray) (hs : dotSmall l = true) (hl : l.length ≤ 9223372036854775807) (A : Option Addr) (c : Nat) (w : World) (hC : ReadsOf Value.string ByteArray.empty w A l.length l) (hG : Glob w) :
    Calls Tryd.prog 49 #[.slice A l.length c, .func (.func 50) #[] #[]] w fun e w' => e = .returned (.bool (!dotAll l)) ∧ Below w.heap.size w w' := by
  have HI := Lib.hid (dot_idx l hs hl A c w hC hG)
  clear hC hs hG hl
  generalize ha : dotAll l = b
  have Ha := Lib.hid ha
  clear ha
  go_enter Tryd.func49, Tryd.ntmps49
  go_wp2_with (go_at_call 69; refine HI.out.mono ?_; rintro e w1 ⟨i, rfl, hi, hb⟩; rw [Ha.out] at hi; have HB1 := Lib.hid hb; clear hb)
  go_ret
  exact ⟨by simp [hi], HB1.out⟩
set_option maxHeartbeats 1000000 in
set_option maxRecDepth 100000 in
theorem text_DotAtom.calls (k : Nat) (a0 : ByteArray) (r : Bool) (w : World) (hG : Glob w) (h : text_DotAtom.f k a0 = some r) :
    Calls Tryd.prog 17 #[.string a0] w fun e w' => e = .returned (.bool r) ∧ Below w.heap.size w w' := by
  unfold text_DotAtom.f at h
  obtain ⟨l, hl, h⟩ := Option.bind_eq_some_iff.mp h
  by_cases hs : dotSmall l = true
  · rw [if_pos hs] at h
    have hr := Lib.hid (Option.some.inj h)
    clear h
    have HL := Lib.hid hl
    have HS := Lib.hid hs
    have HG := Lib.hid hG
    clear hl hs hG
    go_enter Tryd.func17, Tryd.ntmps17
    go_wp2_with (first | (go_at_call 21; refine (text_Split.calls k a0 46 l _ HL.out).mono ?_; rintro e w1 ⟨v, rfl, ho, hb⟩; obtain ⟨A, c, rfl, hc, hC⟩ := Kd.R_reads ho; have HB := Lib.hid hb; have hrd : ReadsOf Value.string ByteArray.empty w1 A l.length l := Kd.reads_of_C hC; have HH := Lib.hid (dot_has l HS.out hrd.2.1 A c w1 hrd (HG.out.below hb)); clear ho hb hC hc hrd) | (go_at_call 49; refine HH.out.mono ?_; rintro e w2 ⟨rfl, hb2⟩; have HB2 := Lib.hid hb2; clear hb2))
    go_ret
    exact ⟨by rw [← hr.out]; simp, HB.out.trans (HB2.out.mono HB.out.size)⟩
  · rw [if_neg hs] at h; cases h


/-! ### text_Lower: function 18 (by hand) -/
def lowC (c : UInt8) : UInt8 := if 65 ≤ c.toNat ∧ c.toNat ≤ 90 then c + 32 else c
def lowerB (s : ByteArray) : ByteArray := ⟨(s.data.toList.map lowC).toArray⟩
def text_Lower.f (a0 : ByteArray) : Option ByteArray := if a0.size < 70368744177000 then some (lowerB a0) else none
def lowT (s : ByteArray) (k : Nat) : List UInt8 := (s.data.toList.take k).map lowC ++ s.data.toList.drop k
/-- The row behind k rounds. -/
def LowRow (s : ByteArray) (k : Nat) (cs : Array Value) : Prop := ∀ j, j < s.size → cs[j]? = some (.int .u8 (((lowT s k).getD j 0).toNat : Nat))
theorem s_len (s : ByteArray) : s.data.toList.length = s.size := by rw [Array.length_toList]; rfl
theorem lowT_at (s : ByteArray) (k j : Nat) (hk : k ≤ s.size) (hj : j < s.size) : (lowT s k).getD j 0 = if j < k then lowC (s[j]'hj) else s[j]'hj := by
  have hl := s_len s
  unfold lowT
  rw [List.getD_eq_getElem?_getD]
  by_cases h : j < k
  · rw [if_pos h, List.getElem?_append_left (by simp; omega)]
    rw [List.getElem?_map, List.getElem?_take_of_lt h, List.getElem?_eq_getElem (by omega)]
    simp
    rfl
  · rw [if_neg h, List.getElem?_append_right (by simp; omega)]
    simp only [List.length_map, List.length_take, List.getElem?_drop]
    rw [show k + (j - min k s.data.toList.length) = j by omega, List.getElem?_eq_getElem (by omega)]
    simp
    rfl
theorem lowT_end (s : ByteArray) : lowT s s.size = s.data.toList.map lowC := by
  unfold lowT
  rw [List.take_of_length_le (by rw [s_len]; omega), List.drop_of_length_le (by rw [s_len]; omega), List.append_nil]
theorem LowRow.start {W w1 : World} {g e : Nat} {s : ByteArray} : LowRow s 0 (Lib.bytesCells w1 e s) := by
  intro j hj
  rw [lowT_at s 0 j (by omega) hj, if_neg (by omega)]
  simp [Lib.bytesCells, Array.getElem?_append, hj]
  rfl
theorem LowRow.same {s : ByteArray} {k : Nat} {cs : Array Value} (h : LowRow s k cs) (hk : k < s.size) (hc : lowC (s[k]'hk) = s[k]'hk) : LowRow s (k + 1) cs := by
  intro j hj
  rw [h j hj, lowT_at s k j (by omega) hj, lowT_at s (k + 1) j (by omega) hj]
  by_cases e : j = k
  · subst e; rw [if_neg (by omega), if_pos (by omega), hc]
  · by_cases l : j < k
    · rw [if_pos l, if_pos (by omega)]
    · rw [if_neg l, if_neg (by omega)]
theorem LowRow.put {s : ByteArray} {k : Nat} {cs : Array Value} (h : LowRow s k cs) (hk : k < s.size) (v : Nat) (hv : v = (lowC (s[k]'hk)).toNat) : LowRow s (k + 1) (cs.setIfInBounds k (.int .u8 (v : Nat))) := by
  intro j hj
  rw [Array.getElem?_setIfInBounds]
  have hsz : k < cs.size := (Array.getElem?_eq_some_iff.1 (h k hk)).1
  by_cases e : k = j
  · subst e
    rw [if_pos rfl, if_pos hsz, lowT_at s (k + 1) k (by omega) hj, if_pos (by omega), hv]
  · rw [if_neg e, h j hj, lowT_at s k j (by omega) hj, lowT_at s (k + 1) j (by omega) hj]
    by_cases l : j < k
    · rw [if_pos l, if_pos (by omega)]
    · rw [if_neg l, if_neg (by omega)]
theorem low_str (s : ByteArray) : strOfNums ((lowT s s.size).map fun c => (c.toNat : Int)) = lowerB s := by
  rw [lowT_end]
  unfold strOfNums lowerB
  simp [List.map_map, Function.comp_def]
theorem blk_setF {w : World} {g : Nat} {t : TypeId} {cs : Array Value} {fz : Nat × Nat} (h : w.heap[g]? = some (.cells cs t fz)) (i : Nat) (u : Value) : (w.setCell ⟨g, i, none⟩ u).heap[g]? = some (.cells (cs.setIfInBounds i u) t fz) := by
  simp [World.setCell, Array.getElem?_modify, h]
set_option maxHeartbeats 1000000 in
set_option maxRecDepth 100000 in
theorem text_Lower.calls (a0 : ByteArray) (r : ByteArray) (w : World) (h : text_Lower.f a0 = some r) :
    Calls Tryd.prog 18 #[.string a0] w fun e w' => e = .returned (.string r) ∧ Below w.heap.size w w' := by
  unfold text_Lower.f at h
  by_cases hsz : a0.size < 70368744177000
  · rw [if_pos hsz] at h
    obtain rfl := Option.some.inj h
    clear h
    have hcv := fun W => print_bytes (P := Tryd.prog) 9 44 5 Tryd.underlying9 Tryd.underlying44 Tryd.underlying5 a0 W
    go_enter Tryd.func18, Tryd.ntmps18
    go_wp2
    clear hcv
    have HG := Lib.hid (Lib.bytesWorld_at_new w 5 a0)
    have HB := Lib.hid (bytes_below (Below.refl w.heap.size w) (Nat.le_refl _) 5 a0)
    have HL := Lib.hid (LowRow.start (W := w) (w1 := w) (g := 0) (e := 5) (s := a0))
    have HC := Lib.hid (show a0.size ≤ (Lib.bytesCells w 5 a0).size by simp [Lib.bytesCells])
    obtain ⟨w3, hw3⟩ : ∃ w3, w3 = Lib.bytesWorld w 5 a0 := ⟨_, rfl⟩
    rw [← hw3] at HG HB ⊢
    clear hw3
    generalize Lib.bytesCells w 5 a0 = C at HG HL HC
    generalize grownCap w a0.size 0 5 = cap
    obtain ⟨g, hg⟩ : ∃ g, g = w.heap.size := ⟨_, rfl⟩
    have Hg := Lib.hid hg
    rw [← hg] at HG ⊢
    clear hg
    go_loopw [10] (fun v10 w' => ∃ (k : Nat) (cs : Array Value), v10 = .int .i64 k ∧ k ≤ a0.size ∧ Aside0 (w'.heap[g]? = some (.cells cs 5 (C.size, C.size + 1))) ∧ Aside0 (LowRow a0 k cs) ∧ Aside0 (Below w.heap.size w w')) (fun v10 _ => a0.size - (intOf v10).toNat)
    case atStart => exact ⟨0, C, rfl, Nat.zero_le _, ⟨HG.out⟩, ⟨HL.out⟩, ⟨HB.out⟩⟩
    case round =>
      clear HG HL HB
      obtain ⟨k, cs, rfl, hk, HG, HL, HB⟩ := hrel
      by_cases hlt : k < a0.size
      · have hcell : wr.cell? ⟨g, k, none⟩ = some (.int .u8 ((a0[k]'hlt).toNat : Nat)) := by
          rw [World.cell?]
          simp only [HG.out]
          have := HL.out k hlt
          rw [lowT_at a0 k k (by omega) hlt, if_neg (by omega)] at this
          simpa using this
        have hfz : wr.frozen? ⟨g, k, none⟩ = false := by
          have := HC.out
          simp only [World.frozen?, HG.out]
          simp
          omega
        have HP := Lib.hid (HL.out.put hlt)
        have HE := Lib.hid (HL.out.same hlt)
        have hc256 : (a0[k]'hlt).toNat < 256 := UInt8.toNat_lt _
        have Hlow : Hid ((lowC (a0[k]'hlt)).toNat = if 65 ≤ (a0[k]'hlt).toNat ∧ (a0[k]'hlt).toNat ≤ 90 then (a0[k]'hlt).toNat + 32 else (a0[k]'hlt).toNat) := Lib.hid (by
          unfold lowC
          split
          · rw [UInt8.toNat_add]; simp; omega
          · rfl)
        obtain ⟨d, hd⟩ : ∃ d, d = a0[k]'hlt := ⟨_, rfl⟩
        rw [← hd] at HP HE Hlow hcell hc256
        obtain ⟨c, hc⟩ : ∃ c : Nat, c = d.toNat := ⟨_, rfl⟩
        rw [← hc] at Hlow hcell hc256
        have Hc := Lib.hid hc
        clear hc hd
        by_cases h1 : 65 ≤ c
        · have b1 : decide (65 ≤ (c : Int)) = true := decide_eq_true (by omega)
          by_cases h2 : c ≤ 90
          · have b2 : decide ((c : Int) ≤ 90) = true := decide_eq_true (by omega)
            go_wp2
            go_roundw
            case rel => exact ⟨k + 1, _, by go_num, hlt, ⟨blk_setF HG.out k _⟩, ⟨by
              have hv := HP.out (c + 32) (by rw [Hlow.out, if_pos ⟨h1, h2⟩])
              have e : ((c : Int) + 97 - 65) = ((c + 32 : Nat) : Int) := by omega
              first | (rw [e]; exact hv) | exact hv⟩, ⟨below_set HB.out (by have := Hg.out; omega)⟩⟩
            case measure => simp [intOf]; omega
          · have b2 : decide ((c : Int) ≤ 90) = false := decide_eq_false (by omega)
            go_wp2
            go_roundw
            case rel => exact ⟨k + 1, cs, by go_num, hlt, HG, ⟨HE.out (UInt8.toNat_inj.mp (by rw [Hlow.out, if_neg (by omega), Hc.out]))⟩, HB⟩
            case measure => simp [intOf]; omega
        · have b1 : decide (65 ≤ (c : Int)) = false := decide_eq_false (by omega)
          go_wp2
          go_roundw
          case rel => exact ⟨k + 1, cs, by go_num, hlt, HG, ⟨HE.out (UInt8.toNat_inj.mp (by rw [Hlow.out, if_neg (by omega), Hc.out]))⟩, HB⟩
          case measure => simp [intOf]; omega
      · have hk' : k = a0.size := by omega
        subst hk'
        have hcs := run_convert_bytes_arg (P := Tryd.prog) wr 44 5 Tryd.underlying44 Tryd.underlying5 g 0 a0.size cap ((lowT a0 a0.size).map fun c => (c.toNat : Int)) (by rw [List.length_map, lowT_end, List.length_map, s_len]) (fun i hi => by
          rw [Nat.zero_add, World.cell?]
          simp only [HG.out]
          have := HL.out i hi
          rw [lowT_end] at this ⊢
          have hl : i < a0.data.toList.length := by rw [s_len]; exact hi
          simp only [List.getD_eq_getElem?_getD, List.getElem?_map, List.getElem?_eq_getElem hl, Option.map_some, Option.getD_some] at this ⊢
          exact this) 9 Tryd.underlying9
        rw [low_str] at hcs
        go_wp2
        go_ret
        exact ⟨rfl, HB.out⟩
  · rw [if_neg hsz] at h; cases h


/-! ### text_Trim: function 20 -/
def text_Trim.f (a0 : ByteArray) : Option (ByteArray) := (strings_Trim.f a0 (⟨#[32, 9]⟩ : ByteArray)).bind fun t130 => (some t130)
set_option maxHeartbeats 8000000 in
set_option maxRecDepth 100000 in
theorem text_Trim.calls (a0 : ByteArray) (r : ByteArray) (w : World) (h : text_Trim.f a0 = some r) :
    Calls Tryd.prog 20 #[.string a0] w fun e w' => e = .returned (.string r) ∧ Below w.heap.size w w' := by
  have HB := Aside0.mk (Below.refl w.heap.size w)
  have H : ((strings_Trim.f a0 (⟨#[32, 9]⟩ : ByteArray)).bind fun t130 => (some t130)) = some r := h
  clear h
  replace H := Option.bind_eq_some_iff.mp H
  obtain ⟨t130, A20, H⟩ := H
  replace H : (some t130) = some r := H
  have A2 := Aside0.mk A20
  clear A20
  obtain rfl := Option.some.inj H
  go_enter Tryd.func20, Tryd.ntmps20
  go_wp2_with (first | ((with_reducible refine gate_callee (f := 33) rfl ?_); refine goesL_ (some 4) rfl rfl Tryd.func33 (by kernel_rfl) rfl #[.string a0, .string (⟨#[32, 9]⟩ : ByteArray)] rfl (by (try simp only [List.map_toArray, List.map_cons, List.map_nil]); first | done | rfl | (simp only [List.length_drop, List.length_take]; rfl)) ?_; (with_reducible refine (strings_Trim.calls a0 (⟨#[32, 9]⟩ : ByteArray) t130 _ A2.out).mono ?_); rintro e w3 ⟨rfl, hb⟩; refine ⟨_, rfl, ?_⟩; have n0_ := Aside0.mk (below_step (by repeat (first | (with_reducible first | exact HB.out | apply below_alloc | apply pw_below_drewN | apply below_drew1) | exact HB.out)) hb); clear HB; have HB := n0_; clear n0_; (try clear hb); (try clear hb2); (try clear hk); (try clear hi)))
  go_ret
  exact ⟨by first | rfl | (simp [bneNil]; done) | (simp [errW_none, errW_some] <;> rfl) | (simp [*, errW_none, errW_some] <;> rfl), by repeat (first | (with_reducible first | exact HB.out | apply below_alloc | apply pw_below_drewN | apply below_drew1) | exact HB.out)⟩

/-! ### postriderlaw04_TextKnown_map0: function 107 (by hand) -/
def tkRow0 : List (ByteArray × Int) := [(⟨#[]⟩, 5), (⟨#[97]⟩, 5), (⟨#[34]⟩, 4), (⟨#[34, 97]⟩, 4), (⟨#[34, 97, 92]⟩, 4), (⟨#[34, 92, 34]⟩, 4), (⟨#[34, 34]⟩, 0), (⟨#[34, 92, 34, 34]⟩, 0), (⟨#[34, 97, 9, 98, 34]⟩, 5), (⟨#[34, 92, 9, 34]⟩, 5), (⟨#[34, 128, 34]⟩, 5), (⟨#[34, 32, 34, 120]⟩, 0)]
def postriderlaw04_TextKnown_map0.f (k : Nat) : Option Bool := if (tkRow0.all fun e => decide ((text_Quoted.f k e.1).map (fun r => r.2.2) = some e.2)) = true then some true else none
theorem postriderlaw04_TextKnown_map0.mono : ∀ k, LeO (postriderlaw04_TextKnown_map0.f k) (postriderlaw04_TextKnown_map0.f (k + 1)) := by
  intro k r h
  unfold postriderlaw04_TextKnown_map0.f at h ⊢
  split at h
  · rename_i hs
    rw [if_pos]
    · exact h
    · refine List.all_eq_true.2 (fun e he => ?_)
      have h1 := List.all_eq_true.1 hs e he
      rw [decide_eq_true_eq] at h1 ⊢
      obtain ⟨v, h2, h3⟩ := Option.map_eq_some_iff.1 h1
      exact Option.map_eq_some_iff.2 ⟨v, text_Quoted.mono _ k _ h2, h3⟩
  · cases h


/-! ### postriderlaw04_TextKnown_map1: function 108 (by hand) -/
def tkRow1 : List (ByteArray × Int) := [(⟨#[]⟩, 5), (⟨#[41]⟩, 5), (⟨#[40]⟩, 4), (⟨#[40, 41]⟩, 0), (⟨#[40, 40, 41]⟩, 4), (⟨#[40, 92, 41, 41]⟩, 0), (⟨#[40, 92]⟩, 4), (⟨#[40, 9, 41]⟩, 0), (⟨#[40, 10, 41]⟩, 5), (⟨#[40, 92, 9, 41]⟩, 5), (⟨#[40, 40, 40, 40, 40, 40, 40, 40, 97, 41, 41, 41, 41, 41, 41, 41, 41]⟩, 0), (⟨#[40, 40, 40, 40, 40, 40, 40, 40, 40]⟩, 3)]
def postriderlaw04_TextKnown_map1.f (k : Nat) : Option Bool := if (tkRow1.all fun e => decide ((text_Comment.f k e.1).map (fun r => r.2) = some e.2)) = true then some true else none
theorem postriderlaw04_TextKnown_map1.mono : ∀ k, LeO (postriderlaw04_TextKnown_map1.f k) (postriderlaw04_TextKnown_map1.f (k + 1)) := by
  intro k r h
  unfold postriderlaw04_TextKnown_map1.f at h ⊢
  split at h
  · rename_i hs
    rw [if_pos]
    · exact h
    · refine List.all_eq_true.2 (fun e he => ?_)
      have h1 := List.all_eq_true.1 hs e he
      rw [decide_eq_true_eq] at h1 ⊢
      obtain ⟨v, h2, h3⟩ := Option.map_eq_some_iff.1 h1
      exact Option.map_eq_some_iff.2 ⟨v, text_Comment.mono _ k _ h2, h3⟩
  · cases h


end Go.Proofs.YtfeihligcondgaaDoor.Q
end
section
namespace Go.Proofs.YtfeihligcondgaaDoor.Q
open Go.RowKit Go.Proofs.YtfeihligcondgaaDoorW.PrintWords Go.Proofs.YtfeihligcondgaaDoorW.PrintLast Go.Proofs.YtfeihligcondgaaDoorW.PrintMore
attribute [local go_sem] max2_int min2_int max_two min_two max_three min_three max_four min_four   -- for this text's walks alone
set_option linter.unusedVariables false
set_option linter.unusedSimpArgs false

/-! ### postriderlaw04_TextKnown: function 4 -/
def postriderlaw04_TextKnown.f (k : Nat)  : Option (Bool) := (postriderlaw04_TextKnown_map0.f k).bind fun t131 => ((postriderlaw04_TextKnown_map1.f k).bind fun t132 => ((text_Blank.f k (⟨#[]⟩ : ByteArray)).bind fun bt133 => ((text_Blank.f k (⟨#[120]⟩ : ByteArray)).bind fun bt135 => ((text_Blank.f k (⟨#[32, 32, 40]⟩ : ByteArray)).bind fun bt137 => ((text_Number.f (⟨#[48, 48, 52, 50]⟩ : ByteArray) 4).bind fun bt139 => ((text_Number.f (⟨#[48, 48, 52, 50]⟩ : ByteArray) 3).bind fun bt141 => ((text_Number.f (⟨#[52]⟩ : ByteArray) (-1)).bind fun bt143 => ((text_Number.f (⟨#[52, 50]⟩ : ByteArray) 0).bind fun bt145 => ((text_Number.f (⟨#[57, 57, 57, 57, 57, 57, 57, 57, 57, 57, 57, 57, 57, 57, 57]⟩ : ByteArray) 99).bind fun bt147 => ((text_Number.f (⟨#[57, 57, 57, 57, 57, 57, 57, 57, 57, 57, 57, 57, 57, 57, 57, 57]⟩ : ByteArray) 99).bind fun bt149 => ((text_Number.f (⟨#[45, 49]⟩ : ByteArray) 5).bind fun bt151 => (if bt133.1 = 0 then (if bt133.2 = 0 then (if bt135.1 = 0 then (if bt135.2 = 0 then (if bt137.2 = 4 then (if bt139.1 = 42 then (if bt139.2 = 0 then (if bt141.2 = 5 then (if bt143.2 = 0 then (if bt145.2 = 5 then (if bt147.1 = 999999999999999 then (if bt147.2 = 0 then (if bt149.2 = 5 then (if bt151.2 = 5 then ((text_Atom.f (⟨#[97, 33, 35, 36, 37, 38, 39, 42, 43, 45, 47, 61, 63, 94, 95, 96, 123, 124, 125, 126, 90, 57]⟩ : ByteArray)).bind fun t153 => (if t153 = true then ((text_Atom.f (⟨#[]⟩ : ByteArray)).bind fun t154 => (if t154 = true then (some false) else ((text_Atom.f (⟨#[97, 46, 98]⟩ : ByteArray)).bind fun t155 => (if t155 = true then (some false) else ((text_Atom.f (⟨#[97, 32, 98]⟩ : ByteArray)).bind fun t156 => (if t156 = true then (some false) else ((text_DotAtom.f k (⟨#[97, 46, 98]⟩ : ByteArray)).bind fun t157 => (if t157 = true then ((text_DotAtom.f k (⟨#[97, 46, 46, 98]⟩ : ByteArray)).bind fun t158 => (if t158 = true then (some false) else ((text_DotAtom.f k (⟨#[46, 97]⟩ : ByteArray)).bind fun t159 => (if t159 = true then (some false) else ((text_DotAtom.f k (⟨#[97, 46]⟩ : ByteArray)).bind fun t160 => (if t160 = true then (some false) else ((text_DotAtom.f k (⟨#[]⟩ : ByteArray)).bind fun t161 => (if t161 = true then (some false) else ((text_Lower.f (⟨#[192, 65, 90, 91]⟩ : ByteArray)).bind fun t162 => (if t162.toList = ([192, 97, 122, 91] : List UInt8) then ((text_Plain.f (⟨#[]⟩ : ByteArray)).bind fun t163 => (if t163 = true then ((text_Plain.f (⟨#[127]⟩ : ByteArray)).bind fun t164 => (if t164 = true then (some false) else ((text_Plain.f (⟨#[195, 169]⟩ : ByteArray)).bind fun t165 => (if t165 = true then (some false) else ((text_Trim.f (⟨#[32, 9, 32, 97, 32, 98, 32, 9]⟩ : ByteArray)).bind fun t166 => (if t166.toList = ([97, 32, 98] : List UInt8) then ((text_Split.f k (⟨#[]⟩ : ByteArray) 44).bind fun t167 => (if (t167.length : Int) = 1 then ((postriderlaw04_tells.f k).bind fun t170 => (some t170)) else (some false))) else (some false))))))) else (some false))) else (some false))))))))))) else (some false))))))))) else (some false))) else (some false)) else (some false)) else (some false)) else (some false)) else (some false)) else (some false)) else (some false)) else (some false)) else (some false)) else (some false)) else (some false)) else (some false)) else (some false)) else (some false)))))))))))))
theorem postriderlaw04_TextKnown.mono : ∀ k, LeO (postriderlaw04_TextKnown.f k ) (postriderlaw04_TextKnown.f (k + 1) ) := by
 intro  k
 unfold postriderlaw04_TextKnown.f
 repeat' first
   | (with_reducible exact postriderlaw04_TextKnown_map0.mono _)
   | (with_reducible exact postriderlaw04_TextKnown_map1.mono _)
   | (with_reducible exact postriderlaw04_tells.mono _)
   | (with_reducible exact text_Blank.mono _ _)
   | (with_reducible exact text_DotAtom.mono _ _)
   | (with_reducible exact text_Split.mono _ _ _)
   | (with_reducible exact LeO.refl _)
   | (with_reducible exact LeO.none _)
   | (with_reducible refine LeO.ite ?_ ?_)
   | (with_reducible refine LeO.bind ?_ (fun _ => ?_))
   | exact postriderlaw04_TextKnown_map0.mono _
   | exact postriderlaw04_TextKnown_map1.mono _
   | exact postriderlaw04_tells.mono _
   | exact text_Blank.mono _ _
   | exact text_DotAtom.mono _ _
   | exact text_Split.mono _ _ _
   | exact LeO.none _
   | refine LeO.ite ?_ ?_
   | refine LeO.bind ?_ (fun _ => ?_)
set_option maxHeartbeats 8000000 in
set_option maxRecDepth 100000 in
theorem postriderlaw04_TextKnown.calls (k : Nat)  (r : Bool) (w : World) (hG : Glob w) (hT : r = true) (h : postriderlaw04_TextKnown.f k  = some r) :
  Calls Tryd.prog 4 #[] w fun e w' => e = .returned (.bool r) ∧ Below w.heap.size w w' := by
 have HB := Aside0.mk (Below.refl w.heap.size w)
 have HG := Aside0.mk hG
 clear hG
 have HT_r := Aside0.mk hT
 clear hT
 have H : ((postriderlaw04_TextKnown_map0.f k).bind fun t131 => ((postriderlaw04_TextKnown_map1.f k).bind fun t132 => ((text_Blank.f k (⟨#[]⟩ : ByteArray)).bind fun bt133 => ((text_Blank.f k (⟨#[120]⟩ : ByteArray)).bind fun bt135 => ((text_Blank.f k (⟨#[32, 32, 40]⟩ : ByteArray)).bind fun bt137 => ((text_Number.f (⟨#[48, 48, 52, 50]⟩ : ByteArray) 4).bind fun bt139 => ((text_Number.f (⟨#[48, 48, 52, 50]⟩ : ByteArray) 3).bind fun bt141 => ((text_Number.f (⟨#[52]⟩ : ByteArray) (-1)).bind fun bt143 => ((text_Number.f (⟨#[52, 50]⟩ : ByteArray) 0).bind fun bt145 => ((text_Number.f (⟨#[57, 57, 57, 57, 57, 57, 57, 57, 57, 57, 57, 57, 57, 57, 57]⟩ : ByteArray) 99).bind fun bt147 => ((text_Number.f (⟨#[57, 57, 57, 57, 57, 57, 57, 57, 57, 57, 57, 57, 57, 57, 57, 57]⟩ : ByteArray) 99).bind fun bt149 => ((text_Number.f (⟨#[45, 49]⟩ : ByteArray) 5).bind fun bt151 => (if bt133.1 = 0 then (if bt133.2 = 0 then (if bt135.1 = 0 then (if bt135.2 = 0 then (if bt137.2 = 4 then (if bt139.1 = 42 then (if bt139.2 = 0 then (if bt141.2 = 5 then (if bt143.2 = 0 then (if bt145.2 = 5 then (if bt147.1 = 999999999999999 then (if bt147.2 = 0 then (if bt149.2 = 5 then (if bt151.2 = 5 then ((text_Atom.f (⟨#[97, 33, 35, 36, 37, 38, 39, 42, 43, 45, 47, 61, 63, 94, 95, 96, 123, 124, 125, 126, 90, 57]⟩ : ByteArray)).bind fun t153 => (if t153 = true then ((text_Atom.f (⟨#[]⟩ : ByteArray)).bind fun t154 => (if t154 = true then (some false) else ((text_Atom.f (⟨#[97, 46, 98]⟩ : ByteArray)).bind fun t155 => (if t155 = true then (some false) else ((text_Atom.f (⟨#[97, 32, 98]⟩ : ByteArray)).bind fun t156 => (if t156 = true then (some false) else ((text_DotAtom.f k (⟨#[97, 46, 98]⟩ : ByteArray)).bind fun t157 => (if t157 = true then ((text_DotAtom.f k (⟨#[97, 46, 46, 98]⟩ : ByteArray)).bind fun t158 => (if t158 = true then (some false) else ((text_DotAtom.f k (⟨#[46, 97]⟩ : ByteArray)).bind fun t159 => (if t159 = true then (some false) else ((text_DotAtom.f k (⟨#[97, 46]⟩ : ByteArray)).bind fun t160 => (if t160 = true then (some false) else ((text_DotAtom.f k (⟨#[]⟩ : ByteArray)).bind fun t161 => (if t161 = true then (some false) else ((text_Lower.f (⟨#[192, 65, 90, 91]⟩ : ByteArray)).bind fun t162 => (if t162.toList = ([192, 97, 122, 91] : List UInt8) then ((text_Plain.f (⟨#[]⟩ : ByteArray)).bind fun t163 => (if t163 = true then ((text_Plain.f (⟨#[127]⟩ : ByteArray)).bind fun t164 => (if t164 = true then (some false) else ((text_Plain.f (⟨#[195, 169]⟩ : ByteArray)).bind fun t165 => (if t165 = true then (some false) else ((text_Trim.f (⟨#[32, 9, 32, 97, 32, 98, 32, 9]⟩ : ByteArray)).bind fun t166 => (if t166.toList = ([97, 32, 98] : List UInt8) then ((text_Split.f k (⟨#[]⟩ : ByteArray) 44).bind fun t167 => (if (t167.length : Int) = 1 then ((postriderlaw04_tells.f k).bind fun t170 => (some t170)) else (some false))) else (some false))))))) else (some false))) else (some false))))))))))) else (some false))))))))) else (some false))) else (some false)) else (some false)) else (some false)) else (some false)) else (some false)) else (some false)) else (some false)) else (some false)) else (some false)) else (some false)) else (some false)) else (some false)) else (some false)) else (some false)))))))))))))) = some r := h
 clear h
 replace H := Option.bind_eq_some_iff.mp H
 obtain ⟨t131, A10, H⟩ := H
 replace H : ((postriderlaw04_TextKnown_map1.f k).bind fun t132 => ((text_Blank.f k (⟨#[]⟩ : ByteArray)).bind fun bt133 => ((text_Blank.f k (⟨#[120]⟩ : ByteArray)).bind fun bt135 => ((text_Blank.f k (⟨#[32, 32, 40]⟩ : ByteArray)).bind fun bt137 => ((text_Number.f (⟨#[48, 48, 52, 50]⟩ : ByteArray) 4).bind fun bt139 => ((text_Number.f (⟨#[48, 48, 52, 50]⟩ : ByteArray) 3).bind fun bt141 => ((text_Number.f (⟨#[52]⟩ : ByteArray) (-1)).bind fun bt143 => ((text_Number.f (⟨#[52, 50]⟩ : ByteArray) 0).bind fun bt145 => ((text_Number.f (⟨#[57, 57, 57, 57, 57, 57, 57, 57, 57, 57, 57, 57, 57, 57, 57]⟩ : ByteArray) 99).bind fun bt147 => ((text_Number.f (⟨#[57, 57, 57, 57, 57, 57, 57, 57, 57, 57, 57, 57, 57, 57, 57, 57]⟩ : ByteArray) 99).bind fun bt149 => ((text_Number.f (⟨#[45, 49]⟩ : ByteArray) 5).bind fun bt151 => (if bt133.1 = 0 then (if bt133.2 = 0 then (if bt135.1 = 0 then (if bt135.2 = 0 then (if bt137.2 = 4 then (if bt139.1 = 42 then (if bt139.2 = 0 then (if bt141.2 = 5 then (if bt143.2 = 0 then (if bt145.2 = 5 then (if bt147.1 = 999999999999999 then (if bt147.2 = 0 then (if bt149.2 = 5 then (if bt151.2 = 5 then ((text_Atom.f (⟨#[97, 33, 35, 36, 37, 38, 39, 42, 43, 45, 47, 61, 63, 94, 95, 96, 123, 124, 125, 126, 90, 57]⟩ : ByteArray)).bind fun t153 => (if t153 = true then ((text_Atom.f (⟨#[]⟩ : ByteArray)).bind fun t154 => (if t154 = true then (some false) else ((text_Atom.f (⟨#[97, 46, 98]⟩ : ByteArray)).bind fun t155 => (if t155 = true then (some false) else ((text_Atom.f (⟨#[97, 32, 98]⟩ : ByteArray)).bind fun t156 => (if t156 = true then (some false) else ((text_DotAtom.f k (⟨#[97, 46, 98]⟩ : ByteArray)).bind fun t157 => (if t157 = true then ((text_DotAtom.f k (⟨#[97, 46, 46, 98]⟩ : ByteArray)).bind fun t158 => (if t158 = true then (some false) else ((text_DotAtom.f k (⟨#[46, 97]⟩ : ByteArray)).bind fun t159 => (if t159 = true then (some false) else ((text_DotAtom.f k (⟨#[97, 46]⟩ : ByteArray)).bind fun t160 => (if t160 = true then (some false) else ((text_DotAtom.f k (⟨#[]⟩ : ByteArray)).bind fun t161 => (if t161 = true then (some false) else ((text_Lower.f (⟨#[192, 65, 90, 91]⟩ : ByteArray)).bind fun t162 => (if t162.toList = ([192, 97, 122, 91] : List UInt8) then ((text_Plain.f (⟨#[]⟩ : ByteArray)).bind fun t163 => (if t163 = true then ((text_Plain.f (⟨#[127]⟩ : ByteArray)).bind fun t164 => (if t164 = true then (some false) else ((text_Plain.f (⟨#[195, 169]⟩ : ByteArray)).bind fun t165 => (if t165 = true then (some false) else ((text_Trim.f (⟨#[32, 9, 32, 97, 32, 98, 32, 9]⟩ : ByteArray)).bind fun t166 => (if t166.toList = ([97, 32, 98] : List UInt8) then ((text_Split.f k (⟨#[]⟩ : ByteArray) 44).bind fun t167 => (if (t167.length : Int) = 1 then ((postriderlaw04_tells.f k).bind fun t170 => (some t170)) else (some false))) else (some false))))))) else (some false))) else (some false))))))))))) else (some false))))))))) else (some false))) else (some false)) else (some false)) else (some false)) else (some false)) else (some false)) else (some false)) else (some false)) else (some false)) else (some false)) else (some false)) else (some false)) else (some false)) else (some false)) else (some false))))))))))))) = some r := H
 have A1 := Aside0.mk A10
 clear A10
 replace H := Option.bind_eq_some_iff.mp H
 obtain ⟨t132, A20, H⟩ := H
 replace H : ((text_Blank.f k (⟨#[]⟩ : ByteArray)).bind fun bt133 => ((text_Blank.f k (⟨#[120]⟩ : ByteArray)).bind fun bt135 => ((text_Blank.f k (⟨#[32, 32, 40]⟩ : ByteArray)).bind fun bt137 => ((text_Number.f (⟨#[48, 48, 52, 50]⟩ : ByteArray) 4).bind fun bt139 => ((text_Number.f (⟨#[48, 48, 52, 50]⟩ : ByteArray) 3).bind fun bt141 => ((text_Number.f (⟨#[52]⟩ : ByteArray) (-1)).bind fun bt143 => ((text_Number.f (⟨#[52, 50]⟩ : ByteArray) 0).bind fun bt145 => ((text_Number.f (⟨#[57, 57, 57, 57, 57, 57, 57, 57, 57, 57, 57, 57, 57, 57, 57]⟩ : ByteArray) 99).bind fun bt147 => ((text_Number.f (⟨#[57, 57, 57, 57, 57, 57, 57, 57, 57, 57, 57, 57, 57, 57, 57, 57]⟩ : ByteArray) 99).bind fun bt149 => ((text_Number.f (⟨#[45, 49]⟩ : ByteArray) 5).bind fun bt151 => (if bt133.1 = 0 then (if bt133.2 = 0 then (if bt135.1 = 0 then (if bt135.2 = 0 then (if bt137.2 = 4 then (if bt139.1 = 42 then (if bt139.2 = 0 then (if bt141.2 = 5 then (if bt143.2 = 0 then (if bt145.2 = 5 then (if bt147.1 = 999999999999999 then (if bt147.2 = 0 then (if bt149.2 = 5 then (if bt151.2 = 5 then ((text_Atom.f (⟨#[97, 33, 35, 36, 37, 38, 39, 42, 43, 45, 47, 61, 63, 94, 95, 96, 123, 124, 125, 126, 90, 57]⟩ : ByteArray)).bind fun t153 => (if t153 = true then ((text_Atom.f (⟨#[]⟩ : ByteArray)).bind fun t154 => (if t154 = true then (some false) else ((text_Atom.f (⟨#[97, 46, 98]⟩ : ByteArray)).bind fun t155 => (if t155 = true then (some false) else ((text_Atom.f (⟨#[97, 32, 98]⟩ : ByteArray)).bind fun t156 => (if t156 = true then (some false) else ((text_DotAtom.f k (⟨#[97, 46, 98]⟩ : ByteArray)).bind fun t157 => (if t157 = true then ((text_DotAtom.f k (⟨#[97, 46, 46, 98]⟩ : ByteArray)).bind fun t158 => (if t158 = true then (some false) else ((text_DotAtom.f k (⟨#[46, 97]⟩ : ByteArray)).bind fun t159 => (if t159 = true then (some false) else ((text_DotAtom.f k (⟨#[97, 46]⟩ : ByteArray)).bind fun t160 => (if t160 = true then (some false) else ((text_DotAtom.f k (⟨#[]⟩ : ByteArray)).bind fun t161 => (if t161 = true then (some false) else ((text_Lower.f (⟨#[192, 65, 90, 91]⟩ : ByteArray)).bind fun t162 => (if t162.toList = ([192, 97, 122, 91] : List UInt8) then ((text_Plain.f (⟨#[]⟩ : ByteArray)).bind fun t163 => (if t163 = true then ((text_Plain.f (⟨#[127]⟩ : ByteArray)).bind fun t164 => (if t164 = true then (some false) else ((text_Plain.f (⟨#[195, 169]⟩ : ByteArray)).bind fun t165 => (if t165 = true then (some false) else ((text_Trim.f (⟨#[32, 9, 32, 97, 32, 98, 32, 9]⟩ : ByteArray)).bind fun t166 => (if t166.toList = ([97, 32, 98] : List UInt8) then ((text_Split.f k (⟨#[]⟩ : ByteArray) 44).bind fun t167 => (if (t167.length : Int) = 1 then ((postriderlaw04_tells.f k).bind fun t170 => (some t170)) else (some false))) else (some false))))))) else (some false))) else (some false))))))))))) else (some false))))))))) else (some false))) else (some false)) else (some false)) else (some false)) else (some false)) else (some false)) else (some false)) else (some false)) else (some false)) else (some false)) else (some false)) else (some false)) else (some false)) else (some false)) else (some false)))))))))))) = some r := H
 have A2 := Aside0.mk A20
 clear A20
 replace H := Option.bind_eq_some_iff.mp H
 obtain ⟨⟨t133, t134⟩, A30, H⟩ := H
 replace H : ((text_Blank.f k (⟨#[120]⟩ : ByteArray)).bind fun bt135 => ((text_Blank.f k (⟨#[32, 32, 40]⟩ : ByteArray)).bind fun bt137 => ((text_Number.f (⟨#[48, 48, 52, 50]⟩ : ByteArray) 4).bind fun bt139 => ((text_Number.f (⟨#[48, 48, 52, 50]⟩ : ByteArray) 3).bind fun bt141 => ((text_Number.f (⟨#[52]⟩ : ByteArray) (-1)).bind fun bt143 => ((text_Number.f (⟨#[52, 50]⟩ : ByteArray) 0).bind fun bt145 => ((text_Number.f (⟨#[57, 57, 57, 57, 57, 57, 57, 57, 57, 57, 57, 57, 57, 57, 57]⟩ : ByteArray) 99).bind fun bt147 => ((text_Number.f (⟨#[57, 57, 57, 57, 57, 57, 57, 57, 57, 57, 57, 57, 57, 57, 57, 57]⟩ : ByteArray) 99).bind fun bt149 => ((text_Number.f (⟨#[45, 49]⟩ : ByteArray) 5).bind fun bt151 => (if t133 = 0 then (if t134 = 0 then (if bt135.1 = 0 then (if bt135.2 = 0 then (if bt137.2 = 4 then (if bt139.1 = 42 then (if bt139.2 = 0 then (if bt141.2 = 5 then (if bt143.2 = 0 then (if bt145.2 = 5 then (if bt147.1 = 999999999999999 then (if bt147.2 = 0 then (if bt149.2 = 5 then (if bt151.2 = 5 then ((text_Atom.f (⟨#[97, 33, 35, 36, 37, 38, 39, 42, 43, 45, 47, 61, 63, 94, 95, 96, 123, 124, 125, 126, 90, 57]⟩ : ByteArray)).bind fun t153 => (if t153 = true then ((text_Atom.f (⟨#[]⟩ : ByteArray)).bind fun t154 => (if t154 = true then (some false) else ((text_Atom.f (⟨#[97, 46, 98]⟩ : ByteArray)).bind fun t155 => (if t155 = true then (some false) else ((text_Atom.f (⟨#[97, 32, 98]⟩ : ByteArray)).bind fun t156 => (if t156 = true then (some false) else ((text_DotAtom.f k (⟨#[97, 46, 98]⟩ : ByteArray)).bind fun t157 => (if t157 = true then ((text_DotAtom.f k (⟨#[97, 46, 46, 98]⟩ : ByteArray)).bind fun t158 => (if t158 = true then (some false) else ((text_DotAtom.f k (⟨#[46, 97]⟩ : ByteArray)).bind fun t159 => (if t159 = true then (some false) else ((text_DotAtom.f k (⟨#[97, 46]⟩ : ByteArray)).bind fun t160 => (if t160 = true then (some false) else ((text_DotAtom.f k (⟨#[]⟩ : ByteArray)).bind fun t161 => (if t161 = true then (some false) else ((text_Lower.f (⟨#[192, 65, 90, 91]⟩ : ByteArray)).bind fun t162 => (if t162.toList = ([192, 97, 122, 91] : List UInt8) then ((text_Plain.f (⟨#[]⟩ : ByteArray)).bind fun t163 => (if t163 = true then ((text_Plain.f (⟨#[127]⟩ : ByteArray)).bind fun t164 => (if t164 = true then (some false) else ((text_Plain.f (⟨#[195, 169]⟩ : ByteArray)).bind fun t165 => (if t165 = true then (some false) else ((text_Trim.f (⟨#[32, 9, 32, 97, 32, 98, 32, 9]⟩ : ByteArray)).bind fun t166 => (if t166.toList = ([97, 32, 98] : List UInt8) then ((text_Split.f k (⟨#[]⟩ : ByteArray) 44).bind fun t167 => (if (t167.length : Int) = 1 then ((postriderlaw04_tells.f k).bind fun t170 => (some t170)) else (some false))) else (some false))))))) else (some false))) else (some false))))))))))) else (some false))))))))) else (some false))) else (some false)) else (some false)) else (some false)) else (some false)) else (some false)) else (some false)) else (some false)) else (some false)) else (some false)) else (some false)) else (some false)) else (some false)) else (some false)) else (some false))))))))))) = some r := H
 have A3 := Aside0.mk A30
 clear A30
 replace H := Option.bind_eq_some_iff.mp H
 obtain ⟨⟨t135, t136⟩, A40, H⟩ := H
 replace H : ((text_Blank.f k (⟨#[32, 32, 40]⟩ : ByteArray)).bind fun bt137 => ((text_Number.f (⟨#[48, 48, 52, 50]⟩ : ByteArray) 4).bind fun bt139 => ((text_Number.f (⟨#[48, 48, 52, 50]⟩ : ByteArray) 3).bind fun bt141 => ((text_Number.f (⟨#[52]⟩ : ByteArray) (-1)).bind fun bt143 => ((text_Number.f (⟨#[52, 50]⟩ : ByteArray) 0).bind fun bt145 => ((text_Number.f (⟨#[57, 57, 57, 57, 57, 57, 57, 57, 57, 57, 57, 57, 57, 57, 57]⟩ : ByteArray) 99).bind fun bt147 => ((text_Number.f (⟨#[57, 57, 57, 57, 57, 57, 57, 57, 57, 57, 57, 57, 57, 57, 57, 57]⟩ : ByteArray) 99).bind fun bt149 => ((text_Number.f (⟨#[45, 49]⟩ : ByteArray) 5).bind fun bt151 => (if t133 = 0 then (if t134 = 0 then (if t135 = 0 then (if t136 = 0 then (if bt137.2 = 4 then (if bt139.1 = 42 then (if bt139.2 = 0 then (if bt141.2 = 5 then (if bt143.2 = 0 then (if bt145.2 = 5 then (if bt147.1 = 999999999999999 then (if bt147.2 = 0 then (if bt149.2 = 5 then (if bt151.2 = 5 then ((text_Atom.f (⟨#[97, 33, 35, 36, 37, 38, 39, 42, 43, 45, 47, 61, 63, 94, 95, 96, 123, 124, 125, 126, 90, 57]⟩ : ByteArray)).bind fun t153 => (if t153 = true then ((text_Atom.f (⟨#[]⟩ : ByteArray)).bind fun t154 => (if t154 = true then (some false) else ((text_Atom.f (⟨#[97, 46, 98]⟩ : ByteArray)).bind fun t155 => (if t155 = true then (some false) else ((text_Atom.f (⟨#[97, 32, 98]⟩ : ByteArray)).bind fun t156 => (if t156 = true then (some false) else ((text_DotAtom.f k (⟨#[97, 46, 98]⟩ : ByteArray)).bind fun t157 => (if t157 = true then ((text_DotAtom.f k (⟨#[97, 46, 46, 98]⟩ : ByteArray)).bind fun t158 => (if t158 = true then (some false) else ((text_DotAtom.f k (⟨#[46, 97]⟩ : ByteArray)).bind fun t159 => (if t159 = true then (some false) else ((text_DotAtom.f k (⟨#[97, 46]⟩ : ByteArray)).bind fun t160 => (if t160 = true then (some false) else ((text_DotAtom.f k (⟨#[]⟩ : ByteArray)).bind fun t161 => (if t161 = true then (some false) else ((text_Lower.f (⟨#[192, 65, 90, 91]⟩ : ByteArray)).bind fun t162 => (if t162.toList = ([192, 97, 122, 91] : List UInt8) then ((text_Plain.f (⟨#[]⟩ : ByteArray)).bind fun t163 => (if t163 = true then ((text_Plain.f (⟨#[127]⟩ : ByteArray)).bind fun t164 => (if t164 = true then (some false) else ((text_Plain.f (⟨#[195, 169]⟩ : ByteArray)).bind fun t165 => (if t165 = true then (some false) else ((text_Trim.f (⟨#[32, 9, 32, 97, 32, 98, 32, 9]⟩ : ByteArray)).bind fun t166 => (if t166.toList = ([97, 32, 98] : List UInt8) then ((text_Split.f k (⟨#[]⟩ : ByteArray) 44).bind fun t167 => (if (t167.length : Int) = 1 then ((postriderlaw04_tells.f k).bind fun t170 => (some t170)) else (some false))) else (some false))))))) else (some false))) else (some false))))))))))) else (some false))))))))) else (some false))) else (some false)) else (some false)) else (some false)) else (some false)) else (some false)) else (some false)) else (some false)) else (some false)) else (some false)) else (some false)) else (some false)) else (some false)) else (some false)) else (some false)))))))))) = some r := H
 have A4 := Aside0.mk A40
 clear A40
 replace H := Option.bind_eq_some_iff.mp H
 obtain ⟨⟨t137, t138⟩, A50, H⟩ := H
 replace H : ((text_Number.f (⟨#[48, 48, 52, 50]⟩ : ByteArray) 4).bind fun bt139 => ((text_Number.f (⟨#[48, 48, 52, 50]⟩ : ByteArray) 3).bind fun bt141 => ((text_Number.f (⟨#[52]⟩ : ByteArray) (-1)).bind fun bt143 => ((text_Number.f (⟨#[52, 50]⟩ : ByteArray) 0).bind fun bt145 => ((text_Number.f (⟨#[57, 57, 57, 57, 57, 57, 57, 57, 57, 57, 57, 57, 57, 57, 57]⟩ : ByteArray) 99).bind fun bt147 => ((text_Number.f (⟨#[57, 57, 57, 57, 57, 57, 57, 57, 57, 57, 57, 57, 57, 57, 57, 57]⟩ : ByteArray) 99).bind fun bt149 => ((text_Number.f (⟨#[45, 49]⟩ : ByteArray) 5).bind fun bt151 => (if t133 = 0 then (if t134 = 0 then (if t135 = 0 then (if t136 = 0 then (if t138 = 4 then (if bt139.1 = 42 then (if bt139.2 = 0 then (if bt141.2 = 5 then (if bt143.2 = 0 then (if bt145.2 = 5 then (if bt147.1 = 999999999999999 then (if bt147.2 = 0 then (if bt149.2 = 5 then (if bt151.2 = 5 then ((text_Atom.f (⟨#[97, 33, 35, 36, 37, 38, 39, 42, 43, 45, 47, 61, 63, 94, 95, 96, 123, 124, 125, 126, 90, 57]⟩ : ByteArray)).bind fun t153 => (if t153 = true then ((text_Atom.f (⟨#[]⟩ : ByteArray)).bind fun t154 => (if t154 = true then (some false) else ((text_Atom.f (⟨#[97, 46, 98]⟩ : ByteArray)).bind fun t155 => (if t155 = true then (some false) else ((text_Atom.f (⟨#[97, 32, 98]⟩ : ByteArray)).bind fun t156 => (if t156 = true then (some false) else ((text_DotAtom.f k (⟨#[97, 46, 98]⟩ : ByteArray)).bind fun t157 => (if t157 = true then ((text_DotAtom.f k (⟨#[97, 46, 46, 98]⟩ : ByteArray)).bind fun t158 => (if t158 = true then (some false) else ((text_DotAtom.f k (⟨#[46, 97]⟩ : ByteArray)).bind fun t159 => (if t159 = true then (some false) else ((text_DotAtom.f k (⟨#[97, 46]⟩ : ByteArray)).bind fun t160 => (if t160 = true then (some false) else ((text_DotAtom.f k (⟨#[]⟩ : ByteArray)).bind fun t161 => (if t161 = true then (some false) else ((text_Lower.f (⟨#[192, 65, 90, 91]⟩ : ByteArray)).bind fun t162 => (if t162.toList = ([192, 97, 122, 91] : List UInt8) then ((text_Plain.f (⟨#[]⟩ : ByteArray)).bind fun t163 => (if t163 = true then ((text_Plain.f (⟨#[127]⟩ : ByteArray)).bind fun t164 => (if t164 = true then (some false) else ((text_Plain.f (⟨#[195, 169]⟩ : ByteArray)).bind fun t165 => (if t165 = true then (some false) else ((text_Trim.f (⟨#[32, 9, 32, 97, 32, 98, 32, 9]⟩ : ByteArray)).bind fun t166 => (if t166.toList = ([97, 32, 98] : List UInt8) then ((text_Split.f k (⟨#[]⟩ : ByteArray) 44).bind fun t167 => (if (t167.length : Int) = 1 then ((postriderlaw04_tells.f k).bind fun t170 => (some t170)) else (some false))) else (some false))))))) else (some false))) else (some false))))))))))) else (some false))))))))) else (some false))) else (some false)) else (some false)) else (some false)) else (some false)) else (some false)) else (some false)) else (some false)) else (some false)) else (some false)) else (some false)) else (some false)) else (some false)) else (some false)) else (some false))))))))) = some r := H
 have A5 := Aside0.mk A50
 clear A50
 replace H := Option.bind_eq_some_iff.mp H
 obtain ⟨⟨t139, t140⟩, A60, H⟩ := H
 replace H : ((text_Number.f (⟨#[48, 48, 52, 50]⟩ : ByteArray) 3).bind fun bt141 => ((text_Number.f (⟨#[52]⟩ : ByteArray) (-1)).bind fun bt143 => ((text_Number.f (⟨#[52, 50]⟩ : ByteArray) 0).bind fun bt145 => ((text_Number.f (⟨#[57, 57, 57, 57, 57, 57, 57, 57, 57, 57, 57, 57, 57, 57, 57]⟩ : ByteArray) 99).bind fun bt147 => ((text_Number.f (⟨#[57, 57, 57, 57, 57, 57, 57, 57, 57, 57, 57, 57, 57, 57, 57, 57]⟩ : ByteArray) 99).bind fun bt149 => ((text_Number.f (⟨#[45, 49]⟩ : ByteArray) 5).bind fun bt151 => (if t133 = 0 then (if t134 = 0 then (if t135 = 0 then (if t136 = 0 then (if t138 = 4 then (if t139 = 42 then (if t140 = 0 then (if bt141.2 = 5 then (if bt143.2 = 0 then (if bt145.2 = 5 then (if bt147.1 = 999999999999999 then (if bt147.2 = 0 then (if bt149.2 = 5 then (if bt151.2 = 5 then ((text_Atom.f (⟨#[97, 33, 35, 36, 37, 38, 39, 42, 43, 45, 47, 61, 63, 94, 95, 96, 123, 124, 125, 126, 90, 57]⟩ : ByteArray)).bind fun t153 => (if t153 = true then ((text_Atom.f (⟨#[]⟩ : ByteArray)).bind fun t154 => (if t154 = true then (some false) else ((text_Atom.f (⟨#[97, 46, 98]⟩ : ByteArray)).bind fun t155 => (if t155 = true then (some false) else ((text_Atom.f (⟨#[97, 32, 98]⟩ : ByteArray)).bind fun t156 => (if t156 = true then (some false) else ((text_DotAtom.f k (⟨#[97, 46, 98]⟩ : ByteArray)).bind fun t157 => (if t157 = true then ((text_DotAtom.f k (⟨#[97, 46, 46, 98]⟩ : ByteArray)).bind fun t158 => (if t158 = true then (some false) else ((text_DotAtom.f k (⟨#[46, 97]⟩ : ByteArray)).bind fun t159 => (if t159 = true then (some false) else ((text_DotAtom.f k (⟨#[97, 46]⟩ : ByteArray)).bind fun t160 => (if t160 = true then (some false) else ((text_DotAtom.f k (⟨#[]⟩ : ByteArray)).bind fun t161 => (if t161 = true then (some false) else ((text_Lower.f (⟨#[192, 65, 90, 91]⟩ : ByteArray)).bind fun t162 => (if t162.toList = ([192, 97, 122, 91] : List UInt8) then ((text_Plain.f (⟨#[]⟩ : ByteArray)).bind fun t163 => (if t163 = true then ((text_Plain.f (⟨#[127]⟩ : ByteArray)).bind fun t164 => (if t164 = true then (some false) else ((text_Plain.f (⟨#[195, 169]⟩ : ByteArray)).bind fun t165 => (if t165 = true then (some false) else ((text_Trim.f (⟨#[32, 9, 32, 97, 32, 98, 32, 9]⟩ : ByteArray)).bind fun t166 => (if t166.toList = ([97, 32, 98] : List UInt8) then ((text_Split.f k (⟨#[]⟩ : ByteArray) 44).bind fun t167 => (if (t167.length : Int) = 1 then ((postriderlaw04_tells.f k).bind fun t170 => (some t170)) else (some false))) else (some false))))))) else (some false))) else (some false))))))))))) else (some false))))))))) else (some false))) else (some false)) else (some false)) else (some false)) else (some false)) else (some false)) else (some false)) else (some false)) else (some false)) else (some false)) else (some false)) else (some false)) else (some false)) else (some false)) else (some false)))))))) = some r := H
 have A6 := Aside0.mk A60
 clear A60
 replace H := Option.bind_eq_some_iff.mp H
 obtain ⟨⟨t141, t142⟩, A70, H⟩ := H
 replace H : ((text_Number.f (⟨#[52]⟩ : ByteArray) (-1)).bind fun bt143 => ((text_Number.f (⟨#[52, 50]⟩ : ByteArray) 0).bind fun bt145 => ((text_Number.f (⟨#[57, 57, 57, 57, 57, 57, 57, 57, 57, 57, 57, 57, 57, 57, 57]⟩ : ByteArray) 99).bind fun bt147 => ((text_Number.f (⟨#[57, 57, 57, 57, 57, 57, 57, 57, 57, 57, 57, 57, 57, 57, 57, 57]⟩ : ByteArray) 99).bind fun bt149 => ((text_Number.f (⟨#[45, 49]⟩ : ByteArray) 5).bind fun bt151 => (if t133 = 0 then (if t134 = 0 then (if t135 = 0 then (if t136 = 0 then (if t138 = 4 then (if t139 = 42 then (if t140 = 0 then (if t142 = 5 then (if bt143.2 = 0 then (if bt145.2 = 5 then (if bt147.1 = 999999999999999 then (if bt147.2 = 0 then (if bt149.2 = 5 then (if bt151.2 = 5 then ((text_Atom.f (⟨#[97, 33, 35, 36, 37, 38, 39, 42, 43, 45, 47, 61, 63, 94, 95, 96, 123, 124, 125, 126, 90, 57]⟩ : ByteArray)).bind fun t153 => (if t153 = true then ((text_Atom.f (⟨#[]⟩ : ByteArray)).bind fun t154 => (if t154 = true then (some false) else ((text_Atom.f (⟨#[97, 46, 98]⟩ : ByteArray)).bind fun t155 => (if t155 = true then (some false) else ((text_Atom.f (⟨#[97, 32, 98]⟩ : ByteArray)).bind fun t156 => (if t156 = true then (some false) else ((text_DotAtom.f k (⟨#[97, 46, 98]⟩ : ByteArray)).bind fun t157 => (if t157 = true then ((text_DotAtom.f k (⟨#[97, 46, 46, 98]⟩ : ByteArray)).bind fun t158 => (if t158 = true then (some false) else ((text_DotAtom.f k (⟨#[46, 97]⟩ : ByteArray)).bind fun t159 => (if t159 = true then (some false) else ((text_DotAtom.f k (⟨#[97, 46]⟩ : ByteArray)).bind fun t160 => (if t160 = true then (some false) else ((text_DotAtom.f k (⟨#[]⟩ : ByteArray)).bind fun t161 => (if t161 = true then (some false) else ((text_Lower.f (⟨#[192, 65, 90, 91]⟩ : ByteArray)).bind fun t162 => (if t162.toList = ([192, 97, 122, 91] : List UInt8) then ((text_Plain.f (⟨#[]⟩ : ByteArray)).bind fun t163 => (if t163 = true then ((text_Plain.f (⟨#[127]⟩ : ByteArray)).bind fun t164 => (if t164 = true then (some false) else ((text_Plain.f (⟨#[195, 169]⟩ : ByteArray)).bind fun t165 => (if t165 = true then (some false) else ((text_Trim.f (⟨#[32, 9, 32, 97, 32, 98, 32, 9]⟩ : ByteArray)).bind fun t166 => (if t166.toList = ([97, 32, 98] : List UInt8) then ((text_Split.f k (⟨#[]⟩ : ByteArray) 44).bind fun t167 => (if (t167.length : Int) = 1 then ((postriderlaw04_tells.f k).bind fun t170 => (some t170)) else (some false))) else (some false))))))) else (some false))) else (some false))))))))))) else (some false))))))))) else (some false))) else (some false)) else (some false)) else (some false)) else (some false)) else (some false)) else (some false)) else (some false)) else (some false)) else (some false)) else (some false)) else (some false)) else (some false)) else (some false)) else (some false))))))) = some r := H
 have A7 := Aside0.mk A70
 clear A70
 replace H := Option.bind_eq_some_iff.mp H
 obtain ⟨⟨t143, t144⟩, A80, H⟩ := H
 replace H : ((text_Number.f (⟨#[52, 50]⟩ : ByteArray) 0).bind fun bt145 => ((text_Number.f (⟨#[57, 57, 57, 57, 57, 57, 57, 57, 57, 57, 57, 57, 57, 57, 57]⟩ : ByteArray) 99).bind fun bt147 => ((text_Number.f (⟨#[57, 57, 57, 57, 57, 57, 57, 57, 57, 57, 57, 57, 57, 57, 57, 57]⟩ : ByteArray) 99).bind fun bt149 => ((text_Number.f (⟨#[45, 49]⟩ : ByteArray) 5).bind fun bt151 => (if t133 = 0 then (if t134 = 0 then (if t135 = 0 then (if t136 = 0 then (if t138 = 4 then (if t139 = 42 then (if t140 = 0 then (if t142 = 5 then (if t144 = 0 then (if bt145.2 = 5 then (if bt147.1 = 999999999999999 then (if bt147.2 = 0 then (if bt149.2 = 5 then (if bt151.2 = 5 then ((text_Atom.f (⟨#[97, 33, 35, 36, 37, 38, 39, 42, 43, 45, 47, 61, 63, 94, 95, 96, 123, 124, 125, 126, 90, 57]⟩ : ByteArray)).bind fun t153 => (if t153 = true then ((text_Atom.f (⟨#[]⟩ : ByteArray)).bind fun t154 => (if t154 = true then (some false) else ((text_Atom.f (⟨#[97, 46, 98]⟩ : ByteArray)).bind fun t155 => (if t155 = true then (some false) else ((text_Atom.f (⟨#[97, 32, 98]⟩ : ByteArray)).bind fun t156 => (if t156 = true then (some false) else ((text_DotAtom.f k (⟨#[97, 46, 98]⟩ : ByteArray)).bind fun t157 => (if t157 = true then ((text_DotAtom.f k (⟨#[97, 46, 46, 98]⟩ : ByteArray)).bind fun t158 => (if t158 = true then (some false) else ((text_DotAtom.f k (⟨#[46, 97]⟩ : ByteArray)).bind fun t159 => (if t159 = true then (some false) else ((text_DotAtom.f k (⟨#[97, 46]⟩ : ByteArray)).bind fun t160 => (if t160 = true then (some false) else ((text_DotAtom.f k (⟨#[]⟩ : ByteArray)).bind fun t161 => (if t161 = true then (some false) else ((text_Lower.f (⟨#[192, 65, 90, 91]⟩ : ByteArray)).bind fun t162 => (if t162.toList = ([192, 97, 122, 91] : List UInt8) then ((text_Plain.f (⟨#[]⟩ : ByteArray)).bind fun t163 => (if t163 = true then ((text_Plain.f (⟨#[127]⟩ : ByteArray)).bind fun t164 => (if t164 = true then (some false) else ((text_Plain.f (⟨#[195, 169]⟩ : ByteArray)).bind fun t165 => (if t165 = true then (some false) else ((text_Trim.f (⟨#[32, 9, 32, 97, 32, 98, 32, 9]⟩ : ByteArray)).bind fun t166 => (if t166.toList = ([97, 32, 98] : List UInt8) then ((text_Split.f k (⟨#[]⟩ : ByteArray) 44).bind fun t167 => (if (t167.length : Int) = 1 then ((postriderlaw04_tells.f k).bind fun t170 => (some t170)) else (some false))) else (some false))))))) else (some false))) else (some false))))))))))) else (some false))))))))) else (some false))) else (some false)) else (some false)) else (some false)) else (some false)) else (some false)) else (some false)) else (some false)) else (some false)) else (some false)) else (some false)) else (some false)) else (some false)) else (some false)) else (some false)))))) = some r := H
 have A8 := Aside0.mk A80
 clear A80
 replace H := Option.bind_eq_some_iff.mp H
 obtain ⟨⟨t145, t146⟩, A90, H⟩ := H
 replace H : ((text_Number.f (⟨#[57, 57, 57, 57, 57, 57, 57, 57, 57, 57, 57, 57, 57, 57, 57]⟩ : ByteArray) 99).bind fun bt147 => ((text_Number.f (⟨#[57, 57, 57, 57, 57, 57, 57, 57, 57, 57, 57, 57, 57, 57, 57, 57]⟩ : ByteArray) 99).bind fun bt149 => ((text_Number.f (⟨#[45, 49]⟩ : ByteArray) 5).bind fun bt151 => (if t133 = 0 then (if t134 = 0 then (if t135 = 0 then (if t136 = 0 then (if t138 = 4 then (if t139 = 42 then (if t140 = 0 then (if t142 = 5 then (if t144 = 0 then (if t146 = 5 then (if bt147.1 = 999999999999999 then (if bt147.2 = 0 then (if bt149.2 = 5 then (if bt151.2 = 5 then ((text_Atom.f (⟨#[97, 33, 35, 36, 37, 38, 39, 42, 43, 45, 47, 61, 63, 94, 95, 96, 123, 124, 125, 126, 90, 57]⟩ : ByteArray)).bind fun t153 => (if t153 = true then ((text_Atom.f (⟨#[]⟩ : ByteArray)).bind fun t154 => (if t154 = true then (some false) else ((text_Atom.f (⟨#[97, 46, 98]⟩ : ByteArray)).bind fun t155 => (if t155 = true then (some false) else ((text_Atom.f (⟨#[97, 32, 98]⟩ : ByteArray)).bind fun t156 => (if t156 = true then (some false) else ((text_DotAtom.f k (⟨#[97, 46, 98]⟩ : ByteArray)).bind fun t157 => (if t157 = true then ((text_DotAtom.f k (⟨#[97, 46, 46, 98]⟩ : ByteArray)).bind fun t158 => (if t158 = true then (some false) else ((text_DotAtom.f k (⟨#[46, 97]⟩ : ByteArray)).bind fun t159 => (if t159 = true then (some false) else ((text_DotAtom.f k (⟨#[97, 46]⟩ : ByteArray)).bind fun t160 => (if t160 = true then (some false) else ((text_DotAtom.f k (⟨#[]⟩ : ByteArray)).bind fun t161 => (if t161 = true then (some false) else ((text_Lower.f (⟨#[192, 65, 90, 91]⟩ : ByteArray)).bind fun t162 => (if t162.toList = ([192, 97, 122, 91] : List UInt8) then ((text_Plain.f (⟨#[]⟩ : ByteArray)).bind fun t163 => (if t163 = true then ((text_Plain.f (⟨#[127]⟩ : ByteArray)).bind fun t164 => (if t164 = true then (some false) else ((text_Plain.f (⟨#[195, 169]⟩ : ByteArray)).bind fun t165 => (if t165 = true then (some false) else ((text_Trim.f (⟨#[32, 9, 32, 97, 32, 98, 32, 9]⟩ : ByteArray)).bind fun t166 => (if t166.toList = ([97, 32, 98] : List UInt8) then ((text_Split.f k (⟨#[]⟩ : ByteArray) 44).bind fun t167 => (if (t167.length : Int) = 1 then ((postriderlaw04_tells.f k).bind fun t170 => (some t170)) else (some false))) else (some false))))))) else (some false))) else (some false))))))))))) else (some false))))))))) else (some false))) else (some false)) else (some false)) else (some false)) else (some false)) else (some false)) else (some false)) else (some false)) else (some false)) else (some false)) else (some false)) else (some false)) else (some false)) else (some false)) else (some false))))) = some r := H
 have A9 := Aside0.mk A90
 clear A90
 replace H := Option.bind_eq_some_iff.mp H
 obtain ⟨⟨t147, t148⟩, A100, H⟩ := H
 replace H : ((text_Number.f (⟨#[57, 57, 57, 57, 57, 57, 57, 57, 57, 57, 57, 57, 57, 57, 57, 57]⟩ : ByteArray) 99).bind fun bt149 => ((text_Number.f (⟨#[45, 49]⟩ : ByteArray) 5).bind fun bt151 => (if t133 = 0 then (if t134 = 0 then (if t135 = 0 then (if t136 = 0 then (if t138 = 4 then (if t139 = 42 then (if t140 = 0 then (if t142 = 5 then (if t144 = 0 then (if t146 = 5 then (if t147 = 999999999999999 then (if t148 = 0 then (if bt149.2 = 5 then (if bt151.2 = 5 then ((text_Atom.f (⟨#[97, 33, 35, 36, 37, 38, 39, 42, 43, 45, 47, 61, 63, 94, 95, 96, 123, 124, 125, 126, 90, 57]⟩ : ByteArray)).bind fun t153 => (if t153 = true then ((text_Atom.f (⟨#[]⟩ : ByteArray)).bind fun t154 => (if t154 = true then (some false) else ((text_Atom.f (⟨#[97, 46, 98]⟩ : ByteArray)).bind fun t155 => (if t155 = true then (some false) else ((text_Atom.f (⟨#[97, 32, 98]⟩ : ByteArray)).bind fun t156 => (if t156 = true then (some false) else ((text_DotAtom.f k (⟨#[97, 46, 98]⟩ : ByteArray)).bind fun t157 => (if t157 = true then ((text_DotAtom.f k (⟨#[97, 46, 46, 98]⟩ : ByteArray)).bind fun t158 => (if t158 = true then (some false) else ((text_DotAtom.f k (⟨#[46, 97]⟩ : ByteArray)).bind fun t159 => (if t159 = true then (some false) else ((text_DotAtom.f k (⟨#[97, 46]⟩ : ByteArray)).bind fun t160 => (if t160 = true then (some false) else ((text_DotAtom.f k (⟨#[]⟩ : ByteArray)).bind fun t161 => (if t161 = true then (some false) else ((text_Lower.f (⟨#[192, 65, 90, 91]⟩ : ByteArray)).bind fun t162 => (if t162.toList = ([192, 97, 122, 91] : List UInt8) then ((text_Plain.f (⟨#[]⟩ : ByteArray)).bind fun t163 => (if t163 = true then ((text_Plain.f (⟨#[127]⟩ : ByteArray)).bind fun t164 => (if t164 = true then (some false) else ((text_Plain.f (⟨#[195, 169]⟩ : ByteArray)).bind fun t165 => (if t165 = true then (some false) else ((text_Trim.f (⟨#[32, 9, 32, 97, 32, 98, 32, 9]⟩ : ByteArray)).bind fun t166 => (if t166.toList = ([97, 32, 98] : List UInt8) then ((text_Split.f k (⟨#[]⟩ : ByteArray) 44).bind fun t167 => (if (t167.length : Int) = 1 then ((postriderlaw04_tells.f k).bind fun t170 => (some t170)) else (some false))) else (some false))))))) else (some false))) else (some false))))))))))) else (some false))))))))) else (some false))) else (some false)) else (some false)) else (some false)) else (some false)) else (some false)) else (some false)) else (some false)) else (some false)) else (some false)) else (some false)) else (some false)) else (some false)) else (some false)) else (some false)))) = some r := H
 have A10 := Aside0.mk A100
 clear A100
 replace H := Option.bind_eq_some_iff.mp H
 obtain ⟨⟨t149, t150⟩, A110, H⟩ := H
 replace H : ((text_Number.f (⟨#[45, 49]⟩ : ByteArray) 5).bind fun bt151 => (if t133 = 0 then (if t134 = 0 then (if t135 = 0 then (if t136 = 0 then (if t138 = 4 then (if t139 = 42 then (if t140 = 0 then (if t142 = 5 then (if t144 = 0 then (if t146 = 5 then (if t147 = 999999999999999 then (if t148 = 0 then (if t150 = 5 then (if bt151.2 = 5 then ((text_Atom.f (⟨#[97, 33, 35, 36, 37, 38, 39, 42, 43, 45, 47, 61, 63, 94, 95, 96, 123, 124, 125, 126, 90, 57]⟩ : ByteArray)).bind fun t153 => (if t153 = true then ((text_Atom.f (⟨#[]⟩ : ByteArray)).bind fun t154 => (if t154 = true then (some false) else ((text_Atom.f (⟨#[97, 46, 98]⟩ : ByteArray)).bind fun t155 => (if t155 = true then (some false) else ((text_Atom.f (⟨#[97, 32, 98]⟩ : ByteArray)).bind fun t156 => (if t156 = true then (some false) else ((text_DotAtom.f k (⟨#[97, 46, 98]⟩ : ByteArray)).bind fun t157 => (if t157 = true then ((text_DotAtom.f k (⟨#[97, 46, 46, 98]⟩ : ByteArray)).bind fun t158 => (if t158 = true then (some false) else ((text_DotAtom.f k (⟨#[46, 97]⟩ : ByteArray)).bind fun t159 => (if t159 = true then (some false) else ((text_DotAtom.f k (⟨#[97, 46]⟩ : ByteArray)).bind fun t160 => (if t160 = true then (some false) else ((text_DotAtom.f k (⟨#[]⟩ : ByteArray)).bind fun t161 => (if t161 = true then (some false) else ((text_Lower.f (⟨#[192, 65, 90, 91]⟩ : ByteArray)).bind fun t162 => (if t162.toList = ([192, 97, 122, 91] : List UInt8) then ((text_Plain.f (⟨#[]⟩ : ByteArray)).bind fun t163 => (if t163 = true then ((text_Plain.f (⟨#[127]⟩ : ByteArray)).bind fun t164 => (if t164 = true then (some false) else ((text_Plain.f (⟨#[195, 169]⟩ : ByteArray)).bind fun t165 => (if t165 = true then (some false) else ((text_Trim.f (⟨#[32, 9, 32, 97, 32, 98, 32, 9]⟩ : ByteArray)).bind fun t166 => (if t166.toList = ([97, 32, 98] : List UInt8) then ((text_Split.f k (⟨#[]⟩ : ByteArray) 44).bind fun t167 => (if (t167.length : Int) = 1 then ((postriderlaw04_tells.f k).bind fun t170 => (some t170)) else (some false))) else (some false))))))) else (some false))) else (some false))))))))))) else (some false))))))))) else (some false))) else (some false)) else (some false)) else (some false)) else (some false)) else (some false)) else (some false)) else (some false)) else (some false)) else (some false)) else (some false)) else (some false)) else (some false)) else (some false)) else (some false))) = some r := H
 have A11 := Aside0.mk A110
 clear A110
 replace H := Option.bind_eq_some_iff.mp H
 obtain ⟨⟨t151, t152⟩, A120, H⟩ := H
 replace H : (if t133 = 0 then (if t134 = 0 then (if t135 = 0 then (if t136 = 0 then (if t138 = 4 then (if t139 = 42 then (if t140 = 0 then (if t142 = 5 then (if t144 = 0 then (if t146 = 5 then (if t147 = 999999999999999 then (if t148 = 0 then (if t150 = 5 then (if t152 = 5 then ((text_Atom.f (⟨#[97, 33, 35, 36, 37, 38, 39, 42, 43, 45, 47, 61, 63, 94, 95, 96, 123, 124, 125, 126, 90, 57]⟩ : ByteArray)).bind fun t153 => (if t153 = true then ((text_Atom.f (⟨#[]⟩ : ByteArray)).bind fun t154 => (if t154 = true then (some false) else ((text_Atom.f (⟨#[97, 46, 98]⟩ : ByteArray)).bind fun t155 => (if t155 = true then (some false) else ((text_Atom.f (⟨#[97, 32, 98]⟩ : ByteArray)).bind fun t156 => (if t156 = true then (some false) else ((text_DotAtom.f k (⟨#[97, 46, 98]⟩ : ByteArray)).bind fun t157 => (if t157 = true then ((text_DotAtom.f k (⟨#[97, 46, 46, 98]⟩ : ByteArray)).bind fun t158 => (if t158 = true then (some false) else ((text_DotAtom.f k (⟨#[46, 97]⟩ : ByteArray)).bind fun t159 => (if t159 = true then (some false) else ((text_DotAtom.f k (⟨#[97, 46]⟩ : ByteArray)).bind fun t160 => (if t160 = true then (some false) else ((text_DotAtom.f k (⟨#[]⟩ : ByteArray)).bind fun t161 => (if t161 = true then (some false) else ((text_Lower.f (⟨#[192, 65, 90, 91]⟩ : ByteArray)).bind fun t162 => (if t162.toList = ([192, 97, 122, 91] : List UInt8) then ((text_Plain.f (⟨#[]⟩ : ByteArray)).bind fun t163 => (if t163 = true then ((text_Plain.f (⟨#[127]⟩ : ByteArray)).bind fun t164 => (if t164 = true then (some false) else ((text_Plain.f (⟨#[195, 169]⟩ : ByteArray)).bind fun t165 => (if t165 = true then (some false) else ((text_Trim.f (⟨#[32, 9, 32, 97, 32, 98, 32, 9]⟩ : ByteArray)).bind fun t166 => (if t166.toList = ([97, 32, 98] : List UInt8) then ((text_Split.f k (⟨#[]⟩ : ByteArray) 44).bind fun t167 => (if (t167.length : Int) = 1 then ((postriderlaw04_tells.f k).bind fun t170 => (some t170)) else (some false))) else (some false))))))) else (some false))) else (some false))))))))))) else (some false))))))))) else (some false))) else (some false)) else (some false)) else (some false)) else (some false)) else (some false)) else (some false)) else (some false)) else (some false)) else (some false)) else (some false)) else (some false)) else (some false)) else (some false)) else (some false)) = some r := H
 have A12 := Aside0.mk A120
 clear A120
 by_cases c13 : t133 = 0
 ·rw [if_pos c13] at H
  have c13b0 : (t133 == 0) = true := beq_iff_eq.mpr c13
  have c13b1 : (t133 != 0) = false := bne_eq_false_iff_eq.mpr c13
  clear c13
  by_cases c14 : t134 = 0
  ·rw [if_pos c14] at H
   have c14b0 : (t134 == 0) = true := beq_iff_eq.mpr c14
   have c14b1 : (t134 != 0) = false := bne_eq_false_iff_eq.mpr c14
   clear c14
   by_cases c15 : t135 = 0
   ·rw [if_pos c15] at H
    have c15b0 : (t135 == 0) = true := beq_iff_eq.mpr c15
    have c15b1 : (t135 != 0) = false := bne_eq_false_iff_eq.mpr c15
    clear c15
    by_cases c16 : t136 = 0
    ·rw [if_pos c16] at H
     have c16b0 : (t136 == 0) = true := beq_iff_eq.mpr c16
     have c16b1 : (t136 != 0) = false := bne_eq_false_iff_eq.mpr c16
     clear c16
     by_cases c17 : t138 = 4
     ·rw [if_pos c17] at H
      have c17b0 : (t138 == 4) = true := beq_iff_eq.mpr c17
      have c17b1 : (t138 != 4) = false := bne_eq_false_iff_eq.mpr c17
      clear c17
      by_cases c18 : t139 = 42
      ·rw [if_pos c18] at H
       have c18b0 : (t139 == 42) = true := beq_iff_eq.mpr c18
       have c18b1 : (t139 != 42) = false := bne_eq_false_iff_eq.mpr c18
       clear c18
       by_cases c19 : t140 = 0
       ·rw [if_pos c19] at H
        have c19b0 : (t140 == 0) = true := beq_iff_eq.mpr c19
        have c19b1 : (t140 != 0) = false := bne_eq_false_iff_eq.mpr c19
        clear c19
        by_cases c20 : t142 = 5
        ·rw [if_pos c20] at H
         have c20b0 : (t142 == 5) = true := beq_iff_eq.mpr c20
         have c20b1 : (t142 != 5) = false := bne_eq_false_iff_eq.mpr c20
         clear c20
         by_cases c21 : t144 = 0
         ·rw [if_pos c21] at H
          have c21b0 : (t144 == 0) = true := beq_iff_eq.mpr c21
          have c21b1 : (t144 != 0) = false := bne_eq_false_iff_eq.mpr c21
          clear c21
          by_cases c22 : t146 = 5
          ·rw [if_pos c22] at H
           have c22b0 : (t146 == 5) = true := beq_iff_eq.mpr c22
           have c22b1 : (t146 != 5) = false := bne_eq_false_iff_eq.mpr c22
           clear c22
           by_cases c23 : t147 = 999999999999999
           ·rw [if_pos c23] at H
            have c23b0 : (t147 == 999999999999999) = true := beq_iff_eq.mpr c23
            have c23b1 : (t147 != 999999999999999) = false := bne_eq_false_iff_eq.mpr c23
            clear c23
            by_cases c24 : t148 = 0
            ·rw [if_pos c24] at H
             have c24b0 : (t148 == 0) = true := beq_iff_eq.mpr c24
             have c24b1 : (t148 != 0) = false := bne_eq_false_iff_eq.mpr c24
             clear c24
             by_cases c25 : t150 = 5
             ·rw [if_pos c25] at H
              have c25b0 : (t150 == 5) = true := beq_iff_eq.mpr c25
              have c25b1 : (t150 != 5) = false := bne_eq_false_iff_eq.mpr c25
              clear c25
              by_cases c26 : t152 = 5
              ·rw [if_pos c26] at H
               have c26b0 : (t152 == 5) = true := beq_iff_eq.mpr c26
               have c26b1 : (t152 != 5) = false := bne_eq_false_iff_eq.mpr c26
               clear c26
               replace H := Option.bind_eq_some_iff.mp H
               obtain ⟨t153, A270, H⟩ := H
               replace H : (if t153 = true then ((text_Atom.f (⟨#[]⟩ : ByteArray)).bind fun t154 => (if t154 = true then (some false) else ((text_Atom.f (⟨#[97, 46, 98]⟩ : ByteArray)).bind fun t155 => (if t155 = true then (some false) else ((text_Atom.f (⟨#[97, 32, 98]⟩ : ByteArray)).bind fun t156 => (if t156 = true then (some false) else ((text_DotAtom.f k (⟨#[97, 46, 98]⟩ : ByteArray)).bind fun t157 => (if t157 = true then ((text_DotAtom.f k (⟨#[97, 46, 46, 98]⟩ : ByteArray)).bind fun t158 => (if t158 = true then (some false) else ((text_DotAtom.f k (⟨#[46, 97]⟩ : ByteArray)).bind fun t159 => (if t159 = true then (some false) else ((text_DotAtom.f k (⟨#[97, 46]⟩ : ByteArray)).bind fun t160 => (if t160 = true then (some false) else ((text_DotAtom.f k (⟨#[]⟩ : ByteArray)).bind fun t161 => (if t161 = true then (some false) else ((text_Lower.f (⟨#[192, 65, 90, 91]⟩ : ByteArray)).bind fun t162 => (if t162.toList = ([192, 97, 122, 91] : List UInt8) then ((text_Plain.f (⟨#[]⟩ : ByteArray)).bind fun t163 => (if t163 = true then ((text_Plain.f (⟨#[127]⟩ : ByteArray)).bind fun t164 => (if t164 = true then (some false) else ((text_Plain.f (⟨#[195, 169]⟩ : ByteArray)).bind fun t165 => (if t165 = true then (some false) else ((text_Trim.f (⟨#[32, 9, 32, 97, 32, 98, 32, 9]⟩ : ByteArray)).bind fun t166 => (if t166.toList = ([97, 32, 98] : List UInt8) then ((text_Split.f k (⟨#[]⟩ : ByteArray) 44).bind fun t167 => (if (t167.length : Int) = 1 then ((postriderlaw04_tells.f k).bind fun t170 => (some t170)) else (some false))) else (some false))))))) else (some false))) else (some false))))))))))) else (some false))))))))) else (some false)) = some r := H
               have A27 := Aside0.mk A270
               clear A270
               by_cases c28 : t153 = true
               ·subst c28
                have H1 : ((text_Atom.f (⟨#[]⟩ : ByteArray)).bind fun t154 => (if t154 = true then (some false) else ((text_Atom.f (⟨#[97, 46, 98]⟩ : ByteArray)).bind fun t155 => (if t155 = true then (some false) else ((text_Atom.f (⟨#[97, 32, 98]⟩ : ByteArray)).bind fun t156 => (if t156 = true then (some false) else ((text_DotAtom.f k (⟨#[97, 46, 98]⟩ : ByteArray)).bind fun t157 => (if t157 = true then ((text_DotAtom.f k (⟨#[97, 46, 46, 98]⟩ : ByteArray)).bind fun t158 => (if t158 = true then (some false) else ((text_DotAtom.f k (⟨#[46, 97]⟩ : ByteArray)).bind fun t159 => (if t159 = true then (some false) else ((text_DotAtom.f k (⟨#[97, 46]⟩ : ByteArray)).bind fun t160 => (if t160 = true then (some false) else ((text_DotAtom.f k (⟨#[]⟩ : ByteArray)).bind fun t161 => (if t161 = true then (some false) else ((text_Lower.f (⟨#[192, 65, 90, 91]⟩ : ByteArray)).bind fun t162 => (if t162.toList = ([192, 97, 122, 91] : List UInt8) then ((text_Plain.f (⟨#[]⟩ : ByteArray)).bind fun t163 => (if t163 = true then ((text_Plain.f (⟨#[127]⟩ : ByteArray)).bind fun t164 => (if t164 = true then (some false) else ((text_Plain.f (⟨#[195, 169]⟩ : ByteArray)).bind fun t165 => (if t165 = true then (some false) else ((text_Trim.f (⟨#[32, 9, 32, 97, 32, 98, 32, 9]⟩ : ByteArray)).bind fun t166 => (if t166.toList = ([97, 32, 98] : List UInt8) then ((text_Split.f k (⟨#[]⟩ : ByteArray) 44).bind fun t167 => (if (t167.length : Int) = 1 then ((postriderlaw04_tells.f k).bind fun t170 => (some t170)) else (some false))) else (some false))))))) else (some false))) else (some false))))))))))) else (some false))))))))) = some r := by rw [if_pos rfl] at H; exact H
                clear H
                have H := H1
                clear H1
                replace H := Option.bind_eq_some_iff.mp H
                obtain ⟨t154, A290, H⟩ := H
                replace H : (if t154 = true then (some false) else ((text_Atom.f (⟨#[97, 46, 98]⟩ : ByteArray)).bind fun t155 => (if t155 = true then (some false) else ((text_Atom.f (⟨#[97, 32, 98]⟩ : ByteArray)).bind fun t156 => (if t156 = true then (some false) else ((text_DotAtom.f k (⟨#[97, 46, 98]⟩ : ByteArray)).bind fun t157 => (if t157 = true then ((text_DotAtom.f k (⟨#[97, 46, 46, 98]⟩ : ByteArray)).bind fun t158 => (if t158 = true then (some false) else ((text_DotAtom.f k (⟨#[46, 97]⟩ : ByteArray)).bind fun t159 => (if t159 = true then (some false) else ((text_DotAtom.f k (⟨#[97, 46]⟩ : ByteArray)).bind fun t160 => (if t160 = true then (some false) else ((text_DotAtom.f k (⟨#[]⟩ : ByteArray)).bind fun t161 => (if t161 = true then (some false) else ((text_Lower.f (⟨#[192, 65, 90, 91]⟩ : ByteArray)).bind fun t162 => (if t162.toList = ([192, 97, 122, 91] : List UInt8) then ((text_Plain.f (⟨#[]⟩ : ByteArray)).bind fun t163 => (if t163 = true then ((text_Plain.f (⟨#[127]⟩ : ByteArray)).bind fun t164 => (if t164 = true then (some false) else ((text_Plain.f (⟨#[195, 169]⟩ : ByteArray)).bind fun t165 => (if t165 = true then (some false) else ((text_Trim.f (⟨#[32, 9, 32, 97, 32, 98, 32, 9]⟩ : ByteArray)).bind fun t166 => (if t166.toList = ([97, 32, 98] : List UInt8) then ((text_Split.f k (⟨#[]⟩ : ByteArray) 44).bind fun t167 => (if (t167.length : Int) = 1 then ((postriderlaw04_tells.f k).bind fun t170 => (some t170)) else (some false))) else (some false))))))) else (some false))) else (some false))))))))))) else (some false)))))))) = some r := H
                have A29 := Aside0.mk A290
                clear A290
                by_cases c30 : t154 = true
                ·subst c30
                 have H1 : (some false) = some r := by rw [if_pos rfl] at H; exact H
                 clear H
                 have H := H1
                 clear H1
                 exact absurd ((Option.some.inj H).trans HT_r.out) (by decide)
                ·replace c30 := Bool.eq_false_iff.mpr c30
                 subst c30
                 have H1 : ((text_Atom.f (⟨#[97, 46, 98]⟩ : ByteArray)).bind fun t155 => (if t155 = true then (some false) else ((text_Atom.f (⟨#[97, 32, 98]⟩ : ByteArray)).bind fun t156 => (if t156 = true then (some false) else ((text_DotAtom.f k (⟨#[97, 46, 98]⟩ : ByteArray)).bind fun t157 => (if t157 = true then ((text_DotAtom.f k (⟨#[97, 46, 46, 98]⟩ : ByteArray)).bind fun t158 => (if t158 = true then (some false) else ((text_DotAtom.f k (⟨#[46, 97]⟩ : ByteArray)).bind fun t159 => (if t159 = true then (some false) else ((text_DotAtom.f k (⟨#[97, 46]⟩ : ByteArray)).bind fun t160 => (if t160 = true then (some false) else ((text_DotAtom.f k (⟨#[]⟩ : ByteArray)).bind fun t161 => (if t161 = true then (some false) else ((text_Lower.f (⟨#[192, 65, 90, 91]⟩ : ByteArray)).bind fun t162 => (if t162.toList = ([192, 97, 122, 91] : List UInt8) then ((text_Plain.f (⟨#[]⟩ : ByteArray)).bind fun t163 => (if t163 = true then ((text_Plain.f (⟨#[127]⟩ : ByteArray)).bind fun t164 => (if t164 = true then (some false) else ((text_Plain.f (⟨#[195, 169]⟩ : ByteArray)).bind fun t165 => (if t165 = true then (some false) else ((text_Trim.f (⟨#[32, 9, 32, 97, 32, 98, 32, 9]⟩ : ByteArray)).bind fun t166 => (if t166.toList = ([97, 32, 98] : List UInt8) then ((text_Split.f k (⟨#[]⟩ : ByteArray) 44).bind fun t167 => (if (t167.length : Int) = 1 then ((postriderlaw04_tells.f k).bind fun t170 => (some t170)) else (some false))) else (some false))))))) else (some false))) else (some false))))))))))) else (some false))))))) = some r := by rw [if_neg (show ¬ (false = true) by decide)] at H; exact H
                 clear H
                 have H := H1
                 clear H1
                 replace H := Option.bind_eq_some_iff.mp H
                 obtain ⟨t155, A310, H⟩ := H
                 replace H : (if t155 = true then (some false) else ((text_Atom.f (⟨#[97, 32, 98]⟩ : ByteArray)).bind fun t156 => (if t156 = true then (some false) else ((text_DotAtom.f k (⟨#[97, 46, 98]⟩ : ByteArray)).bind fun t157 => (if t157 = true then ((text_DotAtom.f k (⟨#[97, 46, 46, 98]⟩ : ByteArray)).bind fun t158 => (if t158 = true then (some false) else ((text_DotAtom.f k (⟨#[46, 97]⟩ : ByteArray)).bind fun t159 => (if t159 = true then (some false) else ((text_DotAtom.f k (⟨#[97, 46]⟩ : ByteArray)).bind fun t160 => (if t160 = true then (some false) else ((text_DotAtom.f k (⟨#[]⟩ : ByteArray)).bind fun t161 => (if t161 = true then (some false) else ((text_Lower.f (⟨#[192, 65, 90, 91]⟩ : ByteArray)).bind fun t162 => (if t162.toList = ([192, 97, 122, 91] : List UInt8) then ((text_Plain.f (⟨#[]⟩ : ByteArray)).bind fun t163 => (if t163 = true then ((text_Plain.f (⟨#[127]⟩ : ByteArray)).bind fun t164 => (if t164 = true then (some false) else ((text_Plain.f (⟨#[195, 169]⟩ : ByteArray)).bind fun t165 => (if t165 = true then (some false) else ((text_Trim.f (⟨#[32, 9, 32, 97, 32, 98, 32, 9]⟩ : ByteArray)).bind fun t166 => (if t166.toList = ([97, 32, 98] : List UInt8) then ((text_Split.f k (⟨#[]⟩ : ByteArray) 44).bind fun t167 => (if (t167.length : Int) = 1 then ((postriderlaw04_tells.f k).bind fun t170 => (some t170)) else (some false))) else (some false))))))) else (some false))) else (some false))))))))))) else (some false)))))) = some r := H
                 have A31 := Aside0.mk A310
                 clear A310
                 by_cases c32 : t155 = true
                 ·subst c32
                  have H1 : (some false) = some r := by rw [if_pos rfl] at H; exact H
                  clear H
                  have H := H1
                  clear H1
                  exact absurd ((Option.some.inj H).trans HT_r.out) (by decide)
                 ·replace c32 := Bool.eq_false_iff.mpr c32
                  subst c32
                  have H1 : ((text_Atom.f (⟨#[97, 32, 98]⟩ : ByteArray)).bind fun t156 => (if t156 = true then (some false) else ((text_DotAtom.f k (⟨#[97, 46, 98]⟩ : ByteArray)).bind fun t157 => (if t157 = true then ((text_DotAtom.f k (⟨#[97, 46, 46, 98]⟩ : ByteArray)).bind fun t158 => (if t158 = true then (some false) else ((text_DotAtom.f k (⟨#[46, 97]⟩ : ByteArray)).bind fun t159 => (if t159 = true then (some false) else ((text_DotAtom.f k (⟨#[97, 46]⟩ : ByteArray)).bind fun t160 => (if t160 = true then (some false) else ((text_DotAtom.f k (⟨#[]⟩ : ByteArray)).bind fun t161 => (if t161 = true then (some false) else ((text_Lower.f (⟨#[192, 65, 90, 91]⟩ : ByteArray)).bind fun t162 => (if t162.toList = ([192, 97, 122, 91] : List UInt8) then ((text_Plain.f (⟨#[]⟩ : ByteArray)).bind fun t163 => (if t163 = true then ((text_Plain.f (⟨#[127]⟩ : ByteArray)).bind fun t164 => (if t164 = true then (some false) else ((text_Plain.f (⟨#[195, 169]⟩ : ByteArray)).bind fun t165 => (if t165 = true then (some false) else ((text_Trim.f (⟨#[32, 9, 32, 97, 32, 98, 32, 9]⟩ : ByteArray)).bind fun t166 => (if t166.toList = ([97, 32, 98] : List UInt8) then ((text_Split.f k (⟨#[]⟩ : ByteArray) 44).bind fun t167 => (if (t167.length : Int) = 1 then ((postriderlaw04_tells.f k).bind fun t170 => (some t170)) else (some false))) else (some false))))))) else (some false))) else (some false))))))))))) else (some false))))) = some r := by rw [if_neg (show ¬ (false = true) by decide)] at H; exact H
                  clear H
                  have H := H1
                  clear H1
                  replace H := Option.bind_eq_some_iff.mp H
                  obtain ⟨t156, A330, H⟩ := H
                  replace H : (if t156 = true then (some false) else ((text_DotAtom.f k (⟨#[97, 46, 98]⟩ : ByteArray)).bind fun t157 => (if t157 = true then ((text_DotAtom.f k (⟨#[97, 46, 46, 98]⟩ : ByteArray)).bind fun t158 => (if t158 = true then (some false) else ((text_DotAtom.f k (⟨#[46, 97]⟩ : ByteArray)).bind fun t159 => (if t159 = true then (some false) else ((text_DotAtom.f k (⟨#[97, 46]⟩ : ByteArray)).bind fun t160 => (if t160 = true then (some false) else ((text_DotAtom.f k (⟨#[]⟩ : ByteArray)).bind fun t161 => (if t161 = true then (some false) else ((text_Lower.f (⟨#[192, 65, 90, 91]⟩ : ByteArray)).bind fun t162 => (if t162.toList = ([192, 97, 122, 91] : List UInt8) then ((text_Plain.f (⟨#[]⟩ : ByteArray)).bind fun t163 => (if t163 = true then ((text_Plain.f (⟨#[127]⟩ : ByteArray)).bind fun t164 => (if t164 = true then (some false) else ((text_Plain.f (⟨#[195, 169]⟩ : ByteArray)).bind fun t165 => (if t165 = true then (some false) else ((text_Trim.f (⟨#[32, 9, 32, 97, 32, 98, 32, 9]⟩ : ByteArray)).bind fun t166 => (if t166.toList = ([97, 32, 98] : List UInt8) then ((text_Split.f k (⟨#[]⟩ : ByteArray) 44).bind fun t167 => (if (t167.length : Int) = 1 then ((postriderlaw04_tells.f k).bind fun t170 => (some t170)) else (some false))) else (some false))))))) else (some false))) else (some false))))))))))) else (some false)))) = some r := H
                  have A33 := Aside0.mk A330
                  clear A330
                  by_cases c34 : t156 = true
                  ·subst c34
                   have H1 : (some false) = some r := by rw [if_pos rfl] at H; exact H
                   clear H
                   have H := H1
                   clear H1
                   exact absurd ((Option.some.inj H).trans HT_r.out) (by decide)
                  ·replace c34 := Bool.eq_false_iff.mpr c34
                   subst c34
                   have H1 : ((text_DotAtom.f k (⟨#[97, 46, 98]⟩ : ByteArray)).bind fun t157 => (if t157 = true then ((text_DotAtom.f k (⟨#[97, 46, 46, 98]⟩ : ByteArray)).bind fun t158 => (if t158 = true then (some false) else ((text_DotAtom.f k (⟨#[46, 97]⟩ : ByteArray)).bind fun t159 => (if t159 = true then (some false) else ((text_DotAtom.f k (⟨#[97, 46]⟩ : ByteArray)).bind fun t160 => (if t160 = true then (some false) else ((text_DotAtom.f k (⟨#[]⟩ : ByteArray)).bind fun t161 => (if t161 = true then (some false) else ((text_Lower.f (⟨#[192, 65, 90, 91]⟩ : ByteArray)).bind fun t162 => (if t162.toList = ([192, 97, 122, 91] : List UInt8) then ((text_Plain.f (⟨#[]⟩ : ByteArray)).bind fun t163 => (if t163 = true then ((text_Plain.f (⟨#[127]⟩ : ByteArray)).bind fun t164 => (if t164 = true then (some false) else ((text_Plain.f (⟨#[195, 169]⟩ : ByteArray)).bind fun t165 => (if t165 = true then (some false) else ((text_Trim.f (⟨#[32, 9, 32, 97, 32, 98, 32, 9]⟩ : ByteArray)).bind fun t166 => (if t166.toList = ([97, 32, 98] : List UInt8) then ((text_Split.f k (⟨#[]⟩ : ByteArray) 44).bind fun t167 => (if (t167.length : Int) = 1 then ((postriderlaw04_tells.f k).bind fun t170 => (some t170)) else (some false))) else (some false))))))) else (some false))) else (some false))))))))))) else (some false))) = some r := by rw [if_neg (show ¬ (false = true) by decide)] at H; exact H
                   clear H
                   have H := H1
                   clear H1
                   replace H := Option.bind_eq_some_iff.mp H
                   obtain ⟨t157, A350, H⟩ := H
                   replace H : (if t157 = true then ((text_DotAtom.f k (⟨#[97, 46, 46, 98]⟩ : ByteArray)).bind fun t158 => (if t158 = true then (some false) else ((text_DotAtom.f k (⟨#[46, 97]⟩ : ByteArray)).bind fun t159 => (if t159 = true then (some false) else ((text_DotAtom.f k (⟨#[97, 46]⟩ : ByteArray)).bind fun t160 => (if t160 = true then (some false) else ((text_DotAtom.f k (⟨#[]⟩ : ByteArray)).bind fun t161 => (if t161 = true then (some false) else ((text_Lower.f (⟨#[192, 65, 90, 91]⟩ : ByteArray)).bind fun t162 => (if t162.toList = ([192, 97, 122, 91] : List UInt8) then ((text_Plain.f (⟨#[]⟩ : ByteArray)).bind fun t163 => (if t163 = true then ((text_Plain.f (⟨#[127]⟩ : ByteArray)).bind fun t164 => (if t164 = true then (some false) else ((text_Plain.f (⟨#[195, 169]⟩ : ByteArray)).bind fun t165 => (if t165 = true then (some false) else ((text_Trim.f (⟨#[32, 9, 32, 97, 32, 98, 32, 9]⟩ : ByteArray)).bind fun t166 => (if t166.toList = ([97, 32, 98] : List UInt8) then ((text_Split.f k (⟨#[]⟩ : ByteArray) 44).bind fun t167 => (if (t167.length : Int) = 1 then ((postriderlaw04_tells.f k).bind fun t170 => (some t170)) else (some false))) else (some false))))))) else (some false))) else (some false))))))))))) else (some false)) = some r := H
                   have A35 := Aside0.mk A350
                   clear A350
                   by_cases c36 : t157 = true
                   ·subst c36
                    have H1 : ((text_DotAtom.f k (⟨#[97, 46, 46, 98]⟩ : ByteArray)).bind fun t158 => (if t158 = true then (some false) else ((text_DotAtom.f k (⟨#[46, 97]⟩ : ByteArray)).bind fun t159 => (if t159 = true then (some false) else ((text_DotAtom.f k (⟨#[97, 46]⟩ : ByteArray)).bind fun t160 => (if t160 = true then (some false) else ((text_DotAtom.f k (⟨#[]⟩ : ByteArray)).bind fun t161 => (if t161 = true then (some false) else ((text_Lower.f (⟨#[192, 65, 90, 91]⟩ : ByteArray)).bind fun t162 => (if t162.toList = ([192, 97, 122, 91] : List UInt8) then ((text_Plain.f (⟨#[]⟩ : ByteArray)).bind fun t163 => (if t163 = true then ((text_Plain.f (⟨#[127]⟩ : ByteArray)).bind fun t164 => (if t164 = true then (some false) else ((text_Plain.f (⟨#[195, 169]⟩ : ByteArray)).bind fun t165 => (if t165 = true then (some false) else ((text_Trim.f (⟨#[32, 9, 32, 97, 32, 98, 32, 9]⟩ : ByteArray)).bind fun t166 => (if t166.toList = ([97, 32, 98] : List UInt8) then ((text_Split.f k (⟨#[]⟩ : ByteArray) 44).bind fun t167 => (if (t167.length : Int) = 1 then ((postriderlaw04_tells.f k).bind fun t170 => (some t170)) else (some false))) else (some false))))))) else (some false))) else (some false))))))))))) = some r := by rw [if_pos rfl] at H; exact H
                    clear H
                    have H := H1
                    clear H1
                    replace H := Option.bind_eq_some_iff.mp H
                    obtain ⟨t158, A370, H⟩ := H
                    replace H : (if t158 = true then (some false) else ((text_DotAtom.f k (⟨#[46, 97]⟩ : ByteArray)).bind fun t159 => (if t159 = true then (some false) else ((text_DotAtom.f k (⟨#[97, 46]⟩ : ByteArray)).bind fun t160 => (if t160 = true then (some false) else ((text_DotAtom.f k (⟨#[]⟩ : ByteArray)).bind fun t161 => (if t161 = true then (some false) else ((text_Lower.f (⟨#[192, 65, 90, 91]⟩ : ByteArray)).bind fun t162 => (if t162.toList = ([192, 97, 122, 91] : List UInt8) then ((text_Plain.f (⟨#[]⟩ : ByteArray)).bind fun t163 => (if t163 = true then ((text_Plain.f (⟨#[127]⟩ : ByteArray)).bind fun t164 => (if t164 = true then (some false) else ((text_Plain.f (⟨#[195, 169]⟩ : ByteArray)).bind fun t165 => (if t165 = true then (some false) else ((text_Trim.f (⟨#[32, 9, 32, 97, 32, 98, 32, 9]⟩ : ByteArray)).bind fun t166 => (if t166.toList = ([97, 32, 98] : List UInt8) then ((text_Split.f k (⟨#[]⟩ : ByteArray) 44).bind fun t167 => (if (t167.length : Int) = 1 then ((postriderlaw04_tells.f k).bind fun t170 => (some t170)) else (some false))) else (some false))))))) else (some false))) else (some false)))))))))) = some r := H
                    have A37 := Aside0.mk A370
                    clear A370
                    by_cases c38 : t158 = true
                    ·subst c38
                     have H1 : (some false) = some r := by rw [if_pos rfl] at H; exact H
                     clear H
                     have H := H1
                     clear H1
                     exact absurd ((Option.some.inj H).trans HT_r.out) (by decide)
                    ·replace c38 := Bool.eq_false_iff.mpr c38
                     subst c38
                     have H1 : ((text_DotAtom.f k (⟨#[46, 97]⟩ : ByteArray)).bind fun t159 => (if t159 = true then (some false) else ((text_DotAtom.f k (⟨#[97, 46]⟩ : ByteArray)).bind fun t160 => (if t160 = true then (some false) else ((text_DotAtom.f k (⟨#[]⟩ : ByteArray)).bind fun t161 => (if t161 = true then (some false) else ((text_Lower.f (⟨#[192, 65, 90, 91]⟩ : ByteArray)).bind fun t162 => (if t162.toList = ([192, 97, 122, 91] : List UInt8) then ((text_Plain.f (⟨#[]⟩ : ByteArray)).bind fun t163 => (if t163 = true then ((text_Plain.f (⟨#[127]⟩ : ByteArray)).bind fun t164 => (if t164 = true then (some false) else ((text_Plain.f (⟨#[195, 169]⟩ : ByteArray)).bind fun t165 => (if t165 = true then (some false) else ((text_Trim.f (⟨#[32, 9, 32, 97, 32, 98, 32, 9]⟩ : ByteArray)).bind fun t166 => (if t166.toList = ([97, 32, 98] : List UInt8) then ((text_Split.f k (⟨#[]⟩ : ByteArray) 44).bind fun t167 => (if (t167.length : Int) = 1 then ((postriderlaw04_tells.f k).bind fun t170 => (some t170)) else (some false))) else (some false))))))) else (some false))) else (some false))))))))) = some r := by rw [if_neg (show ¬ (false = true) by decide)] at H; exact H
                     clear H
                     have H := H1
                     clear H1
                     replace H := Option.bind_eq_some_iff.mp H
                     obtain ⟨t159, A390, H⟩ := H
                     replace H : (if t159 = true then (some false) else ((text_DotAtom.f k (⟨#[97, 46]⟩ : ByteArray)).bind fun t160 => (if t160 = true then (some false) else ((text_DotAtom.f k (⟨#[]⟩ : ByteArray)).bind fun t161 => (if t161 = true then (some false) else ((text_Lower.f (⟨#[192, 65, 90, 91]⟩ : ByteArray)).bind fun t162 => (if t162.toList = ([192, 97, 122, 91] : List UInt8) then ((text_Plain.f (⟨#[]⟩ : ByteArray)).bind fun t163 => (if t163 = true then ((text_Plain.f (⟨#[127]⟩ : ByteArray)).bind fun t164 => (if t164 = true then (some false) else ((text_Plain.f (⟨#[195, 169]⟩ : ByteArray)).bind fun t165 => (if t165 = true then (some false) else ((text_Trim.f (⟨#[32, 9, 32, 97, 32, 98, 32, 9]⟩ : ByteArray)).bind fun t166 => (if t166.toList = ([97, 32, 98] : List UInt8) then ((text_Split.f k (⟨#[]⟩ : ByteArray) 44).bind fun t167 => (if (t167.length : Int) = 1 then ((postriderlaw04_tells.f k).bind fun t170 => (some t170)) else (some false))) else (some false))))))) else (some false))) else (some false)))))))) = some r := H
                     have A39 := Aside0.mk A390
                     clear A390
                     by_cases c40 : t159 = true
                     ·subst c40
                      have H1 : (some false) = some r := by rw [if_pos rfl] at H; exact H
                      clear H
                      have H := H1
                      clear H1
                      exact absurd ((Option.some.inj H).trans HT_r.out) (by decide)
                     ·replace c40 := Bool.eq_false_iff.mpr c40
                      subst c40
                      have H1 : ((text_DotAtom.f k (⟨#[97, 46]⟩ : ByteArray)).bind fun t160 => (if t160 = true then (some false) else ((text_DotAtom.f k (⟨#[]⟩ : ByteArray)).bind fun t161 => (if t161 = true then (some false) else ((text_Lower.f (⟨#[192, 65, 90, 91]⟩ : ByteArray)).bind fun t162 => (if t162.toList = ([192, 97, 122, 91] : List UInt8) then ((text_Plain.f (⟨#[]⟩ : ByteArray)).bind fun t163 => (if t163 = true then ((text_Plain.f (⟨#[127]⟩ : ByteArray)).bind fun t164 => (if t164 = true then (some false) else ((text_Plain.f (⟨#[195, 169]⟩ : ByteArray)).bind fun t165 => (if t165 = true then (some false) else ((text_Trim.f (⟨#[32, 9, 32, 97, 32, 98, 32, 9]⟩ : ByteArray)).bind fun t166 => (if t166.toList = ([97, 32, 98] : List UInt8) then ((text_Split.f k (⟨#[]⟩ : ByteArray) 44).bind fun t167 => (if (t167.length : Int) = 1 then ((postriderlaw04_tells.f k).bind fun t170 => (some t170)) else (some false))) else (some false))))))) else (some false))) else (some false))))))) = some r := by rw [if_neg (show ¬ (false = true) by decide)] at H; exact H
                      clear H
                      have H := H1
                      clear H1
                      replace H := Option.bind_eq_some_iff.mp H
                      obtain ⟨t160, A410, H⟩ := H
                      replace H : (if t160 = true then (some false) else ((text_DotAtom.f k (⟨#[]⟩ : ByteArray)).bind fun t161 => (if t161 = true then (some false) else ((text_Lower.f (⟨#[192, 65, 90, 91]⟩ : ByteArray)).bind fun t162 => (if t162.toList = ([192, 97, 122, 91] : List UInt8) then ((text_Plain.f (⟨#[]⟩ : ByteArray)).bind fun t163 => (if t163 = true then ((text_Plain.f (⟨#[127]⟩ : ByteArray)).bind fun t164 => (if t164 = true then (some false) else ((text_Plain.f (⟨#[195, 169]⟩ : ByteArray)).bind fun t165 => (if t165 = true then (some false) else ((text_Trim.f (⟨#[32, 9, 32, 97, 32, 98, 32, 9]⟩ : ByteArray)).bind fun t166 => (if t166.toList = ([97, 32, 98] : List UInt8) then ((text_Split.f k (⟨#[]⟩ : ByteArray) 44).bind fun t167 => (if (t167.length : Int) = 1 then ((postriderlaw04_tells.f k).bind fun t170 => (some t170)) else (some false))) else (some false))))))) else (some false))) else (some false)))))) = some r := H
                      have A41 := Aside0.mk A410
                      clear A410
                      by_cases c42 : t160 = true
                      ·subst c42
                       have H1 : (some false) = some r := by rw [if_pos rfl] at H; exact H
                       clear H
                       have H := H1
                       clear H1
                       exact absurd ((Option.some.inj H).trans HT_r.out) (by decide)
                      ·replace c42 := Bool.eq_false_iff.mpr c42
                       subst c42
                       have H1 : ((text_DotAtom.f k (⟨#[]⟩ : ByteArray)).bind fun t161 => (if t161 = true then (some false) else ((text_Lower.f (⟨#[192, 65, 90, 91]⟩ : ByteArray)).bind fun t162 => (if t162.toList = ([192, 97, 122, 91] : List UInt8) then ((text_Plain.f (⟨#[]⟩ : ByteArray)).bind fun t163 => (if t163 = true then ((text_Plain.f (⟨#[127]⟩ : ByteArray)).bind fun t164 => (if t164 = true then (some false) else ((text_Plain.f (⟨#[195, 169]⟩ : ByteArray)).bind fun t165 => (if t165 = true then (some false) else ((text_Trim.f (⟨#[32, 9, 32, 97, 32, 98, 32, 9]⟩ : ByteArray)).bind fun t166 => (if t166.toList = ([97, 32, 98] : List UInt8) then ((text_Split.f k (⟨#[]⟩ : ByteArray) 44).bind fun t167 => (if (t167.length : Int) = 1 then ((postriderlaw04_tells.f k).bind fun t170 => (some t170)) else (some false))) else (some false))))))) else (some false))) else (some false))))) = some r := by rw [if_neg (show ¬ (false = true) by decide)] at H; exact H
                       clear H
                       have H := H1
                       clear H1
                       replace H := Option.bind_eq_some_iff.mp H
                       obtain ⟨t161, A430, H⟩ := H
                       replace H : (if t161 = true then (some false) else ((text_Lower.f (⟨#[192, 65, 90, 91]⟩ : ByteArray)).bind fun t162 => (if t162.toList = ([192, 97, 122, 91] : List UInt8) then ((text_Plain.f (⟨#[]⟩ : ByteArray)).bind fun t163 => (if t163 = true then ((text_Plain.f (⟨#[127]⟩ : ByteArray)).bind fun t164 => (if t164 = true then (some false) else ((text_Plain.f (⟨#[195, 169]⟩ : ByteArray)).bind fun t165 => (if t165 = true then (some false) else ((text_Trim.f (⟨#[32, 9, 32, 97, 32, 98, 32, 9]⟩ : ByteArray)).bind fun t166 => (if t166.toList = ([97, 32, 98] : List UInt8) then ((text_Split.f k (⟨#[]⟩ : ByteArray) 44).bind fun t167 => (if (t167.length : Int) = 1 then ((postriderlaw04_tells.f k).bind fun t170 => (some t170)) else (some false))) else (some false))))))) else (some false))) else (some false)))) = some r := H
                       have A43 := Aside0.mk A430
                       clear A430
                       by_cases c44 : t161 = true
                       ·subst c44
                        have H1 : (some false) = some r := by rw [if_pos rfl] at H; exact H
                        clear H
                        have H := H1
                        clear H1
                        exact absurd ((Option.some.inj H).trans HT_r.out) (by decide)
                       ·replace c44 := Bool.eq_false_iff.mpr c44
                        subst c44
                        have H1 : ((text_Lower.f (⟨#[192, 65, 90, 91]⟩ : ByteArray)).bind fun t162 => (if t162.toList = ([192, 97, 122, 91] : List UInt8) then ((text_Plain.f (⟨#[]⟩ : ByteArray)).bind fun t163 => (if t163 = true then ((text_Plain.f (⟨#[127]⟩ : ByteArray)).bind fun t164 => (if t164 = true then (some false) else ((text_Plain.f (⟨#[195, 169]⟩ : ByteArray)).bind fun t165 => (if t165 = true then (some false) else ((text_Trim.f (⟨#[32, 9, 32, 97, 32, 98, 32, 9]⟩ : ByteArray)).bind fun t166 => (if t166.toList = ([97, 32, 98] : List UInt8) then ((text_Split.f k (⟨#[]⟩ : ByteArray) 44).bind fun t167 => (if (t167.length : Int) = 1 then ((postriderlaw04_tells.f k).bind fun t170 => (some t170)) else (some false))) else (some false))))))) else (some false))) else (some false))) = some r := by rw [if_neg (show ¬ (false = true) by decide)] at H; exact H
                        clear H
                        have H := H1
                        clear H1
                        replace H := Option.bind_eq_some_iff.mp H
                        obtain ⟨t162, A450, H⟩ := H
                        replace H : (if t162.toList = ([192, 97, 122, 91] : List UInt8) then ((text_Plain.f (⟨#[]⟩ : ByteArray)).bind fun t163 => (if t163 = true then ((text_Plain.f (⟨#[127]⟩ : ByteArray)).bind fun t164 => (if t164 = true then (some false) else ((text_Plain.f (⟨#[195, 169]⟩ : ByteArray)).bind fun t165 => (if t165 = true then (some false) else ((text_Trim.f (⟨#[32, 9, 32, 97, 32, 98, 32, 9]⟩ : ByteArray)).bind fun t166 => (if t166.toList = ([97, 32, 98] : List UInt8) then ((text_Split.f k (⟨#[]⟩ : ByteArray) 44).bind fun t167 => (if (t167.length : Int) = 1 then ((postriderlaw04_tells.f k).bind fun t170 => (some t170)) else (some false))) else (some false))))))) else (some false))) else (some false)) = some r := H
                        have A45 := Aside0.mk A450
                        clear A450
                        by_cases c46 : t162.toList = ([192, 97, 122, 91] : List UInt8)
                        ·rw [if_pos c46] at H
                         have c46b0 : (t162.toList == ([192, 97, 122, 91] : List UInt8)) = true := beq_iff_eq.mpr c46
                         have c46b1 : (t162.toList != ([192, 97, 122, 91] : List UInt8)) = false := bne_eq_false_iff_eq.mpr c46
                         clear c46
                         replace H := Option.bind_eq_some_iff.mp H
                         obtain ⟨t163, A470, H⟩ := H
                         replace H : (if t163 = true then ((text_Plain.f (⟨#[127]⟩ : ByteArray)).bind fun t164 => (if t164 = true then (some false) else ((text_Plain.f (⟨#[195, 169]⟩ : ByteArray)).bind fun t165 => (if t165 = true then (some false) else ((text_Trim.f (⟨#[32, 9, 32, 97, 32, 98, 32, 9]⟩ : ByteArray)).bind fun t166 => (if t166.toList = ([97, 32, 98] : List UInt8) then ((text_Split.f k (⟨#[]⟩ : ByteArray) 44).bind fun t167 => (if (t167.length : Int) = 1 then ((postriderlaw04_tells.f k).bind fun t170 => (some t170)) else (some false))) else (some false))))))) else (some false)) = some r := H
                         have A47 := Aside0.mk A470
                         clear A470
                         by_cases c48 : t163 = true
                         ·subst c48
                          have H1 : ((text_Plain.f (⟨#[127]⟩ : ByteArray)).bind fun t164 => (if t164 = true then (some false) else ((text_Plain.f (⟨#[195, 169]⟩ : ByteArray)).bind fun t165 => (if t165 = true then (some false) else ((text_Trim.f (⟨#[32, 9, 32, 97, 32, 98, 32, 9]⟩ : ByteArray)).bind fun t166 => (if t166.toList = ([97, 32, 98] : List UInt8) then ((text_Split.f k (⟨#[]⟩ : ByteArray) 44).bind fun t167 => (if (t167.length : Int) = 1 then ((postriderlaw04_tells.f k).bind fun t170 => (some t170)) else (some false))) else (some false))))))) = some r := by rw [if_pos rfl] at H; exact H
                          clear H
                          have H := H1
                          clear H1
                          replace H := Option.bind_eq_some_iff.mp H
                          obtain ⟨t164, A490, H⟩ := H
                          replace H : (if t164 = true then (some false) else ((text_Plain.f (⟨#[195, 169]⟩ : ByteArray)).bind fun t165 => (if t165 = true then (some false) else ((text_Trim.f (⟨#[32, 9, 32, 97, 32, 98, 32, 9]⟩ : ByteArray)).bind fun t166 => (if t166.toList = ([97, 32, 98] : List UInt8) then ((text_Split.f k (⟨#[]⟩ : ByteArray) 44).bind fun t167 => (if (t167.length : Int) = 1 then ((postriderlaw04_tells.f k).bind fun t170 => (some t170)) else (some false))) else (some false)))))) = some r := H
                          have A49 := Aside0.mk A490
                          clear A490
                          by_cases c50 : t164 = true
                          ·subst c50
                           have H1 : (some false) = some r := by rw [if_pos rfl] at H; exact H
                           clear H
                           have H := H1
                           clear H1
                           exact absurd ((Option.some.inj H).trans HT_r.out) (by decide)
                          ·replace c50 := Bool.eq_false_iff.mpr c50
                           subst c50
                           have H1 : ((text_Plain.f (⟨#[195, 169]⟩ : ByteArray)).bind fun t165 => (if t165 = true then (some false) else ((text_Trim.f (⟨#[32, 9, 32, 97, 32, 98, 32, 9]⟩ : ByteArray)).bind fun t166 => (if t166.toList = ([97, 32, 98] : List UInt8) then ((text_Split.f k (⟨#[]⟩ : ByteArray) 44).bind fun t167 => (if (t167.length : Int) = 1 then ((postriderlaw04_tells.f k).bind fun t170 => (some t170)) else (some false))) else (some false))))) = some r := by rw [if_neg (show ¬ (false = true) by decide)] at H; exact H
                           clear H
                           have H := H1
                           clear H1
                           replace H := Option.bind_eq_some_iff.mp H
                           obtain ⟨t165, A510, H⟩ := H
                           replace H : (if t165 = true then (some false) else ((text_Trim.f (⟨#[32, 9, 32, 97, 32, 98, 32, 9]⟩ : ByteArray)).bind fun t166 => (if t166.toList = ([97, 32, 98] : List UInt8) then ((text_Split.f k (⟨#[]⟩ : ByteArray) 44).bind fun t167 => (if (t167.length : Int) = 1 then ((postriderlaw04_tells.f k).bind fun t170 => (some t170)) else (some false))) else (some false)))) = some r := H
                           have A51 := Aside0.mk A510
                           clear A510
                           by_cases c52 : t165 = true
                           ·subst c52
                            have H1 : (some false) = some r := by rw [if_pos rfl] at H; exact H
                            clear H
                            have H := H1
                            clear H1
                            exact absurd ((Option.some.inj H).trans HT_r.out) (by decide)
                           ·replace c52 := Bool.eq_false_iff.mpr c52
                            subst c52
                            have H1 : ((text_Trim.f (⟨#[32, 9, 32, 97, 32, 98, 32, 9]⟩ : ByteArray)).bind fun t166 => (if t166.toList = ([97, 32, 98] : List UInt8) then ((text_Split.f k (⟨#[]⟩ : ByteArray) 44).bind fun t167 => (if (t167.length : Int) = 1 then ((postriderlaw04_tells.f k).bind fun t170 => (some t170)) else (some false))) else (some false))) = some r := by rw [if_neg (show ¬ (false = true) by decide)] at H; exact H
                            clear H
                            have H := H1
                            clear H1
                            replace H := Option.bind_eq_some_iff.mp H
                            obtain ⟨t166, A530, H⟩ := H
                            replace H : (if t166.toList = ([97, 32, 98] : List UInt8) then ((text_Split.f k (⟨#[]⟩ : ByteArray) 44).bind fun t167 => (if (t167.length : Int) = 1 then ((postriderlaw04_tells.f k).bind fun t170 => (some t170)) else (some false))) else (some false)) = some r := H
                            have A53 := Aside0.mk A530
                            clear A530
                            by_cases c54 : t166.toList = ([97, 32, 98] : List UInt8)
                            ·rw [if_pos c54] at H
                             have c54b0 : (t166.toList == ([97, 32, 98] : List UInt8)) = true := beq_iff_eq.mpr c54
                             have c54b1 : (t166.toList != ([97, 32, 98] : List UInt8)) = false := bne_eq_false_iff_eq.mpr c54
                             clear c54
                             replace H := Option.bind_eq_some_iff.mp H
                             obtain ⟨t167, A550, H⟩ := H
                             replace H : (if (t167.length : Int) = 1 then ((postriderlaw04_tells.f k).bind fun t170 => (some t170)) else (some false)) = some r := H
                             have A55 := Aside0.mk A550
                             clear A550
                             by_cases c56 : (t167.length : Int) = 1
                             ·rw [if_pos c56] at H
                              have c56b0 : ((t167.length : Int) == 1) = true := beq_iff_eq.mpr c56
                              have c56b1 : ((t167.length : Int) != 1) = false := bne_eq_false_iff_eq.mpr c56
                              clear c56
                              replace H := Option.bind_eq_some_iff.mp H
                              obtain ⟨t170, A570, H⟩ := H
                              replace H : (some t170) = some r := H
                              have A57 := Aside0.mk A570
                              clear A570
                              obtain rfl := Option.some.inj H
                              go_enter Tryd.func4, Tryd.ntmps4
                              have HK0 : Aside0 (∀ z ∈ tkRow0, ∃ v, text_Quoted.f k z.1 = some v ∧ v.2.2 = z.2) := ⟨fun z hz => by
                                have h1 := A1.out
                                unfold postriderlaw04_TextKnown_map0.f at h1
                                split at h1
                                · rename_i h2
                                  have h3 := List.all_eq_true.1 h2 z hz
                                  rw [decide_eq_true_eq] at h3
                                  exact Option.map_eq_some_iff.1 h3
                                · cases h1⟩
                              have hmm := @run_makeMap Tryd.prog
                              have law9 : Maps.Keyed Tryd.prog 9 := Maps.string_keyed Tryd.underlying9
                              obtain ⟨bm, hbm⟩ : ∃ b_, b_ = w.heap.size := ⟨_, rfl⟩
                              go_upto_block 0 with (first
                               | (refine wpList_literal 12 32 9 26 (Operand.tmp 30) law9 Tryd.underlying32 (plainElem (H := Unit) Tryd.prog 26) w.heap.size rfl _ (insSI tkRow0) (rowSI tkRow0) _ ⟨⟨rfl, rfl, _, _, rfl, rfl, rfl⟩, ⟨⟨rfl, rfl, _, _, rfl, rfl, rfl⟩, ⟨⟨rfl, rfl, _, _, rfl, rfl, rfl⟩, ⟨⟨rfl, rfl, _, _, rfl, rfl, rfl⟩, ⟨⟨rfl, rfl, _, _, rfl, rfl, rfl⟩, ⟨⟨rfl, rfl, _, _, rfl, rfl, rfl⟩, ⟨⟨rfl, rfl, _, _, rfl, rfl, rfl⟩, ⟨⟨rfl, rfl, _, _, rfl, rfl, rfl⟩, ⟨⟨rfl, rfl, _, _, rfl, rfl, rfl⟩, ⟨⟨rfl, rfl, _, _, rfl, rfl, rfl⟩, ⟨⟨rfl, rfl, _, _, rfl, rfl, rfl⟩, ⟨⟨rfl, rfl, _, _, rfl, rfl, rfl⟩, trivial⟩⟩⟩⟩⟩⟩⟩⟩⟩⟩⟩⟩ (rd_si Tryd.underlying9 Tryd.underlying26 _ (by decide +kernel)) (by decide) (World.ownsMap_made _ _ _ _) ?_; intro wm hown hgm; simp only [List.drop_succ_cons, List.drop_zero])
                               | (at_range; refine wpList_range_own _ rfl _ 32 rfl 9 26 law9 Tryd.underlying32 _ w.heap.size _ _ rfl hown ?_; intro wn hrg0 hgn hsn))
                              have hB0 : Below w.heap.size w wn := ((below_alloc HB.out _).grown hgm (Nat.le_trans HB.out.size (by simp)) (fun k_ hk_ => by cases hk_; exact HB.out.size)).grown hgn (Nat.le_trans (Nat.le_trans HB.out.size (by simp)) hgm.size) (fun k_ hk_ => by cases hk_)
                              have hr0 : w.heap.size ≤ wm.heap.size := Nat.le_trans (Nat.le_trans HB.out.size (by simp)) hgm.size
                              have HR0 := Aside0.mk hr0
                              obtain ⟨rm, hrm⟩ : ∃ r_, r_ = wm.heap.size := ⟨_, rfl⟩
                              rw [← hrm] at hrg0 HR0
                              rw [← hrm]
                              have HRG := Aside0.mk hrg0
                              have HB0 := Aside0.mk hB0
                              clear hB0 hr0 hrg0 hgn hsn hown hgm hrm
                              go_frame
                              go_cut [] (fun wc => Aside0 (Below w.heap.size w wc))
                              case first =>
                               go_wp2
                               go_loopw [1] (fun _ wr => ∃ (left : Lit → Bool) (cnt : Nat), Aside0 (wr.ranges Tryd.prog 9 (plainElem (H := Unit) Tryd.prog 26) w.heap.size rm (rowSI tkRow0).length (litMap (rowSI tkRow0)) left cnt) ∧ Aside0 (Below w.heap.size w wr)) (fun _ wr => wr.rangeLeft w.heap.size rm)
                               case atStart => exact ⟨_, _, HRG, HB0⟩
                               case round =>
                                clear HRG HB0
                                obtain ⟨left, cnt, HRG, HB0⟩ := hrel
                                go_wp2_with (at_next; refine wpList_next_ranges _ rfl _ rfl 9 law9 (plainElem (H := Unit) Tryd.prog 26) Value.string (Value.int .i64) (inv_s Tryd.underlying9) (inv_i Tryd.underlying26) w.heap.size rm _ _ _ _ rfl HRG.out ?_ ?_)
                                · intro _ _
                                  go_wp2
                                  go_meet
                                  case rel => exact HB0
                                · intro x c kl yd yp wx cntx hkey hlk hv hat hrgx hltx hgx hsx hen
                                  obtain ⟨⟨r0_, r1_, r2_⟩, hq, hc⟩ := HK0.out _ (mem_si (x := x) (c := c) (y := (yd, yp)) Tryd.underlying9 Tryd.underlying26 hkey hv hat)
                                  have hBx : Below w.heap.size w wx := HB0.out.grown hgx HB0.out.size (fun k_ hk_ => by cases hk_; exact HR0.out)
                                  have HBX := Aside0.mk hBx
                                  have HQ := Aside0.mk hq
                                  have HRX := Aside0.mk hrgx
                                  have HLX := Aside0.mk hltx
                                  have HLE := Aside0.mk HRG.out.left_eq
                                  have HSX := Aside0.mk hsx
                                  obtain rfl : r2_ = c := hc
                                  have hcc : (r2_ != r2_) = false := by simp
                                  clear hkey hv hat hlk hq hrgx hltx hgx hsx hBx
                                  go_wp2_with (go_at_call 14; (with_reducible refine (text_Quoted.calls k _ _ _ _ _ HQ.out).mono ?_); rintro e wy ⟨rfl, hby⟩)
                                  go_roundw
                                  case rel => exact ⟨_, cntx, ⟨HRX.out.kept (grown_of_below hby none) (by simp) (by simp)⟩, ⟨HBX.out.trans (hby.mono HBX.out.size)⟩⟩
                                  case measure => rw [(HRX.out.kept (grown_of_below hby none) (by simp) (by simp)).left_eq, HLE.out]; exact HLX.out
                              clear HB HB0 HRG HR0 hmm law9
                              have HB := hcut
                              have HK1 : Aside0 (∀ z ∈ tkRow1, ∃ v, text_Comment.f k z.1 = some v ∧ v.2 = z.2) := ⟨fun z hz => by
                                have h1 := A2.out
                                unfold postriderlaw04_TextKnown_map1.f at h1
                                split at h1
                                · rename_i h2
                                  have h3 := List.all_eq_true.1 h2 z hz
                                  rw [decide_eq_true_eq] at h3
                                  exact Option.map_eq_some_iff.1 h3
                                · cases h1⟩
                              have hmm := @run_makeMap Tryd.prog
                              have law9 : Maps.Keyed Tryd.prog 9 := Maps.string_keyed Tryd.underlying9
                              obtain ⟨bm, hbm⟩ : ∃ b_, b_ = wc.heap.size := ⟨_, rfl⟩
                              go_upto_block 2 with (first
                               | (refine wpList_literal 12 32 9 26 (Operand.tmp 47) law9 Tryd.underlying32 (plainElem (H := Unit) Tryd.prog 26) wc.heap.size rfl _ (insSI tkRow1) (rowSI tkRow1) _ ⟨⟨rfl, rfl, _, _, rfl, rfl, rfl⟩, ⟨⟨rfl, rfl, _, _, rfl, rfl, rfl⟩, ⟨⟨rfl, rfl, _, _, rfl, rfl, rfl⟩, ⟨⟨rfl, rfl, _, _, rfl, rfl, rfl⟩, ⟨⟨rfl, rfl, _, _, rfl, rfl, rfl⟩, ⟨⟨rfl, rfl, _, _, rfl, rfl, rfl⟩, ⟨⟨rfl, rfl, _, _, rfl, rfl, rfl⟩, ⟨⟨rfl, rfl, _, _, rfl, rfl, rfl⟩, ⟨⟨rfl, rfl, _, _, rfl, rfl, rfl⟩, ⟨⟨rfl, rfl, _, _, rfl, rfl, rfl⟩, ⟨⟨rfl, rfl, _, _, rfl, rfl, rfl⟩, ⟨⟨rfl, rfl, _, _, rfl, rfl, rfl⟩, trivial⟩⟩⟩⟩⟩⟩⟩⟩⟩⟩⟩⟩ (rd_si Tryd.underlying9 Tryd.underlying26 _ (by decide +kernel)) (by decide) (World.ownsMap_made _ _ _ _) ?_; intro wm hown hgm; simp only [List.drop_succ_cons, List.drop_zero])
                               | (at_range; refine wpList_range_own _ rfl _ 32 rfl 9 26 law9 Tryd.underlying32 _ wc.heap.size _ _ rfl hown ?_; intro wn hrg0 hgn hsn))
                              have hB0 : Below w.heap.size w wn := ((below_alloc HB.out _).grown hgm (Nat.le_trans HB.out.size (by simp)) (fun k_ hk_ => by cases hk_; exact HB.out.size)).grown hgn (Nat.le_trans (Nat.le_trans HB.out.size (by simp)) hgm.size) (fun k_ hk_ => by cases hk_)
                              have hr0 : w.heap.size ≤ wm.heap.size := Nat.le_trans (Nat.le_trans HB.out.size (by simp)) hgm.size
                              have HR0 := Aside0.mk hr0
                              obtain ⟨rm, hrm⟩ : ∃ r_, r_ = wm.heap.size := ⟨_, rfl⟩
                              rw [← hrm] at hrg0 HR0
                              rw [← hrm]
                              have HRG := Aside0.mk hrg0
                              have HB0 := Aside0.mk hB0
                              clear hB0 hr0 hrg0 hgn hsn hown hgm hrm
                              go_frame
                              go_cut [] (fun wc => Aside0 (Below w.heap.size w wc))
                              case first =>
                               go_wp2
                               go_loopw [6] (fun _ wr => ∃ (left : Lit → Bool) (cnt : Nat), Aside0 (wr.ranges Tryd.prog 9 (plainElem (H := Unit) Tryd.prog 26) wc.heap.size rm (rowSI tkRow1).length (litMap (rowSI tkRow1)) left cnt) ∧ Aside0 (Below w.heap.size w wr)) (fun _ wr => wr.rangeLeft wc.heap.size rm)
                               case atStart => exact ⟨_, _, HRG, HB0⟩
                               case round =>
                                clear HRG HB0
                                obtain ⟨left, cnt, HRG, HB0⟩ := hrel
                                go_wp2_with (at_next; refine wpList_next_ranges _ rfl _ rfl 9 law9 (plainElem (H := Unit) Tryd.prog 26) Value.string (Value.int .i64) (inv_s Tryd.underlying9) (inv_i Tryd.underlying26) wc.heap.size rm _ _ _ _ rfl HRG.out ?_ ?_)
                                · intro _ _
                                  go_wp2
                                  go_meet
                                  case rel => exact HB0
                                · intro x c kl yd yp wx cntx hkey hlk hv hat hrgx hltx hgx hsx hen
                                  obtain ⟨⟨r0_, r1_⟩, hq, hc⟩ := HK1.out _ (mem_si (x := x) (c := c) (y := (yd, yp)) Tryd.underlying9 Tryd.underlying26 hkey hv hat)
                                  have hBx : Below w.heap.size w wx := HB0.out.grown hgx HB0.out.size (fun k_ hk_ => by cases hk_; exact HR0.out)
                                  have HBX := Aside0.mk hBx
                                  have HQ := Aside0.mk hq
                                  have HRX := Aside0.mk hrgx
                                  have HLX := Aside0.mk hltx
                                  have HLE := Aside0.mk HRG.out.left_eq
                                  have HSX := Aside0.mk hsx
                                  obtain rfl : r1_ = c := hc
                                  have hcc : (r1_ != r1_) = false := by simp
                                  clear hkey hv hat hlk hq hrgx hltx hgx hsx hBx
                                  go_wp2_with (go_at_call 12; (with_reducible refine (text_Comment.calls k _ _ _ _ HQ.out).mono ?_); rintro e wy ⟨rfl, hby_⟩; have hby := hby_.below)
                                  go_roundw
                                  case rel => exact ⟨_, cntx, ⟨HRX.out.kept (grown_of_below hby none) (by simp) (by simp)⟩, ⟨HBX.out.trans (hby.mono HBX.out.size)⟩⟩
                                  case measure => rw [(HRX.out.kept (grown_of_below hby none) (by simp) (by simp)).left_eq, HLE.out]; exact HLX.out
                              clear HB HB0 HRG HR0 hmm law9
                              have HB := hcut
                              go_wp2_with (first | ((with_reducible refine gate_callee (f := 10) rfl ?_); refine goesL_ (some 64) rfl rfl Tryd.func10 (by kernel_rfl) rfl #[.string (⟨#[]⟩ : ByteArray)] rfl ml ?_; (with_reducible refine (text_Blank.calls k (⟨#[]⟩ : ByteArray) t133 t134 _ A3.out).mono ?_); rintro e w' ⟨rfl, ⟨nd, rfl⟩⟩; refine ⟨_, rfl, ?_⟩) | ((with_reducible refine gate_callee (f := 10) rfl ?_); refine goesL_ (some 68) rfl rfl Tryd.func10 (by kernel_rfl) rfl #[.string (⟨#[120]⟩ : ByteArray)] rfl ml ?_; (with_reducible refine (text_Blank.calls k (⟨#[120]⟩ : ByteArray) t135 t136 _ A4.out).mono ?_); rintro e w' ⟨rfl, ⟨nd, rfl⟩⟩; refine ⟨_, rfl, ?_⟩) | ((with_reducible refine gate_callee (f := 10) rfl ?_); refine goesL_ (some 72) rfl rfl Tryd.func10 (by kernel_rfl) rfl #[.string (⟨#[32, 32, 40]⟩ : ByteArray)] rfl ml ?_; (with_reducible refine (text_Blank.calls k (⟨#[32, 32, 40]⟩ : ByteArray) t137 t138 _ A5.out).mono ?_); rintro e w' ⟨rfl, ⟨nd, rfl⟩⟩; refine ⟨_, rfl, ?_⟩) | ((with_reducible refine gate_callee (f := 15) rfl ?_); refine goesL_ (some 76) rfl rfl Tryd.func15 (by kernel_rfl) rfl #[.string (⟨#[48, 48, 52, 50]⟩ : ByteArray), .int .i64 4] rfl ml ?_; (with_reducible refine (text_Number.calls (⟨#[48, 48, 52, 50]⟩ : ByteArray) 4 t139 t140 _ A6.out).mono ?_); rintro e w60 ⟨rfl, hb⟩; refine ⟨_, rfl, ?_⟩; have n0_ := Aside0.mk (below_step bl hb); clear HB; have HB := n0_; clear n0_; (try clear hb); (try clear hb2); (try clear hk); (try clear hi)) | ((with_reducible refine gate_callee (f := 15) rfl ?_); refine goesL_ (some 80) rfl rfl Tryd.func15 (by kernel_rfl) rfl #[.string (⟨#[48, 48, 52, 50]⟩ : ByteArray), .int .i64 3] rfl ml ?_; (with_reducible refine (text_Number.calls (⟨#[48, 48, 52, 50]⟩ : ByteArray) 3 t141 t142 _ A7.out).mono ?_); rintro e w61 ⟨rfl, hb⟩; refine ⟨_, rfl, ?_⟩; have n0_ := Aside0.mk (below_step bl hb); clear HB; have HB := n0_; clear n0_; (try clear hb); (try clear hb2); (try clear hk); (try clear hi)) | ((with_reducible refine gate_callee (f := 15) rfl ?_); refine goesL_ (some 84) rfl rfl Tryd.func15 (by kernel_rfl) rfl #[.string (⟨#[52]⟩ : ByteArray), .int .i64 (-1)] rfl ml ?_; (with_reducible refine (text_Number.calls (⟨#[52]⟩ : ByteArray) (-1) t143 t144 _ A8.out).mono ?_); rintro e w62 ⟨rfl, hb⟩; refine ⟨_, rfl, ?_⟩; have n0_ := Aside0.mk (below_step bl hb); clear HB; have HB := n0_; clear n0_; (try clear hb); (try clear hb2); (try clear hk); (try clear hi)) | ((with_reducible refine gate_callee (f := 15) rfl ?_); refine goesL_ (some 88) rfl rfl Tryd.func15 (by kernel_rfl) rfl #[.string (⟨#[52, 50]⟩ : ByteArray), .int .i64 0] rfl ml ?_; (with_reducible refine (text_Number.calls (⟨#[52, 50]⟩ : ByteArray) 0 t145 t146 _ A9.out).mono ?_); rintro e w63 ⟨rfl, hb⟩; refine ⟨_, rfl, ?_⟩; have n0_ := Aside0.mk (below_step bl hb); clear HB; have HB := n0_; clear n0_; (try clear hb); (try clear hb2); (try clear hk); (try clear hi)) | ((with_reducible refine gate_callee (f := 15) rfl ?_); refine goesL_ (some 92) rfl rfl Tryd.func15 (by kernel_rfl) rfl #[.string (⟨#[57, 57, 57, 57, 57, 57, 57, 57, 57, 57, 57, 57, 57, 57, 57]⟩ : ByteArray), .int .i64 99] rfl ml ?_; (with_reducible refine (text_Number.calls (⟨#[57, 57, 57, 57, 57, 57, 57, 57, 57, 57, 57, 57, 57, 57, 57]⟩ : ByteArray) 99 t147 t148 _ A10.out).mono ?_); rintro e w64 ⟨rfl, hb⟩; refine ⟨_, rfl, ?_⟩; have n0_ := Aside0.mk (below_step bl hb); clear HB; have HB := n0_; clear n0_; (try clear hb); (try clear hb2); (try clear hk); (try clear hi)) | ((with_reducible refine gate_callee (f := 15) rfl ?_); refine goesL_ (some 96) rfl rfl Tryd.func15 (by kernel_rfl) rfl #[.string (⟨#[57, 57, 57, 57, 57, 57, 57, 57, 57, 57, 57, 57, 57, 57, 57, 57]⟩ : ByteArray), .int .i64 99] rfl ml ?_; (with_reducible refine (text_Number.calls (⟨#[57, 57, 57, 57, 57, 57, 57, 57, 57, 57, 57, 57, 57, 57, 57, 57]⟩ : ByteArray) 99 t149 t150 _ A11.out).mono ?_); rintro e w65 ⟨rfl, hb⟩; refine ⟨_, rfl, ?_⟩; have n0_ := Aside0.mk (below_step bl hb); clear HB; have HB := n0_; clear n0_; (try clear hb); (try clear hb2); (try clear hk); (try clear hi)) | ((with_reducible refine gate_callee (f := 15) rfl ?_); refine goesL_ (some 100) rfl rfl Tryd.func15 (by kernel_rfl) rfl #[.string (⟨#[45, 49]⟩ : ByteArray), .int .i64 5] rfl ml ?_; (with_reducible refine (text_Number.calls (⟨#[45, 49]⟩ : ByteArray) 5 t151 t152 _ A12.out).mono ?_); rintro e w66 ⟨rfl, hb⟩; refine ⟨_, rfl, ?_⟩; have n0_ := Aside0.mk (below_step bl hb); clear HB; have HB := n0_; clear n0_; (try clear hb); (try clear hb2); (try clear hk); (try clear hi)) | (go_at_call 16; (with_reducible refine (text_Atom.calls (⟨#[97, 33, 35, 36, 37, 38, 39, 42, 43, 45, 47, 61, 63, 94, 95, 96, 123, 124, 125, 126, 90, 57]⟩ : ByteArray) true _ ?side1 A27.out).mono ?_); (case side1 => exact Glob.below HG.out bl); rintro e w67 ⟨rfl, hb⟩; have n0_ := Aside0.mk (below_step bl hb); clear HB; have HB := n0_; clear n0_; (try clear hb); (try clear hb2); (try clear hk); (try clear hi)) | (go_at_call 16; (with_reducible refine (text_Atom.calls (⟨#[]⟩ : ByteArray) false _ ?side1 A29.out).mono ?_); (case side1 => exact Glob.below HG.out bl); rintro e w68 ⟨rfl, hb⟩; have n0_ := Aside0.mk (below_step bl hb); clear HB; have HB := n0_; clear n0_; (try clear hb); (try clear hb2); (try clear hk); (try clear hi)) | (go_at_call 16; (with_reducible refine (text_Atom.calls (⟨#[97, 46, 98]⟩ : ByteArray) false _ ?side1 A31.out).mono ?_); (case side1 => exact Glob.below HG.out bl); rintro e w69 ⟨rfl, hb⟩; have n0_ := Aside0.mk (below_step bl hb); clear HB; have HB := n0_; clear n0_; (try clear hb); (try clear hb2); (try clear hk); (try clear hi)) | (go_at_call 16; (with_reducible refine (text_Atom.calls (⟨#[97, 32, 98]⟩ : ByteArray) false _ ?side1 A33.out).mono ?_); (case side1 => exact Glob.below HG.out bl); rintro e w70 ⟨rfl, hb⟩; have n0_ := Aside0.mk (below_step bl hb); clear HB; have HB := n0_; clear n0_; (try clear hb); (try clear hb2); (try clear hk); (try clear hi)) | (go_at_call 17; (with_reducible refine (text_DotAtom.calls k (⟨#[97, 46, 98]⟩ : ByteArray) true _ ?side1 A35.out).mono ?_); (case side1 => exact Glob.below HG.out bl); rintro e w71 ⟨rfl, hb⟩; have n0_ := Aside0.mk (below_step bl hb); clear HB; have HB := n0_; clear n0_; (try clear hb); (try clear hb2); (try clear hk); (try clear hi)) | (go_at_call 17; (with_reducible refine (text_DotAtom.calls k (⟨#[97, 46, 46, 98]⟩ : ByteArray) false _ ?side1 A37.out).mono ?_); (case side1 => exact Glob.below HG.out bl); rintro e w72 ⟨rfl, hb⟩; have n0_ := Aside0.mk (below_step bl hb); clear HB; have HB := n0_; clear n0_; (try clear hb); (try clear hb2); (try clear hk); (try clear hi)) | (go_at_call 17; (with_reducible refine (text_DotAtom.calls k (⟨#[46, 97]⟩ : ByteArray) false _ ?side1 A39.out).mono ?_); (case side1 => exact Glob.below HG.out bl); rintro e w73 ⟨rfl, hb⟩; have n0_ := Aside0.mk (below_step bl hb); clear HB; have HB := n0_; clear n0_; (try clear hb); (try clear hb2); (try clear hk); (try clear hi)) | (go_at_call 17; (with_reducible refine (text_DotAtom.calls k (⟨#[97, 46]⟩ : ByteArray) false _ ?side1 A41.out).mono ?_); (case side1 => exact Glob.below HG.out bl); rintro e w74 ⟨rfl, hb⟩; have n0_ := Aside0.mk (below_step bl hb); clear HB; have HB := n0_; clear n0_; (try clear hb); (try clear hb2); (try clear hk); (try clear hi)) | (go_at_call 17; (with_reducible refine (text_DotAtom.calls k (⟨#[]⟩ : ByteArray) false _ ?side1 A43.out).mono ?_); (case side1 => exact Glob.below HG.out bl); rintro e w75 ⟨rfl, hb⟩; have n0_ := Aside0.mk (below_step bl hb); clear HB; have HB := n0_; clear n0_; (try clear hb); (try clear hb2); (try clear hk); (try clear hi)) | (go_at_call 18; (with_reducible refine (text_Lower.calls (⟨#[192, 65, 90, 91]⟩ : ByteArray) t162 _ A45.out).mono ?_); rintro e w76 ⟨rfl, hb⟩; have n0_ := Aside0.mk (below_step bl hb); clear HB; have HB := n0_; clear n0_; (try clear hb); (try clear hb2); (try clear hk); (try clear hi)) | (go_at_call 19; (with_reducible refine (text_Plain.calls (⟨#[]⟩ : ByteArray) true _ A47.out).mono ?_); rintro e w77 ⟨rfl, hb⟩; have n0_ := Aside0.mk (below_step bl hb); clear HB; have HB := n0_; clear n0_; (try clear hb); (try clear hb2); (try clear hk); (try clear hi)) | (go_at_call 19; (with_reducible refine (text_Plain.calls (⟨#[127]⟩ : ByteArray) false _ A49.out).mono ?_); rintro e w78 ⟨rfl, hb⟩; have n0_ := Aside0.mk (below_step bl hb); clear HB; have HB := n0_; clear n0_; (try clear hb); (try clear hb2); (try clear hk); (try clear hi)) | (go_at_call 19; (with_reducible refine (text_Plain.calls (⟨#[195, 169]⟩ : ByteArray) false _ A51.out).mono ?_); rintro e w79 ⟨rfl, hb⟩; have n0_ := Aside0.mk (below_step bl hb); clear HB; have HB := n0_; clear n0_; (try clear hb); (try clear hb2); (try clear hk); (try clear hi)) | (go_at_call 20; (with_reducible refine (text_Trim.calls (⟨#[32, 9, 32, 97, 32, 98, 32, 9]⟩ : ByteArray) t166 _ A53.out).mono ?_); rintro e w80 ⟨rfl, hb⟩; have n0_ := Aside0.mk (below_step bl hb); clear HB; have HB := n0_; clear n0_; (try clear hb); (try clear hb2); (try clear hk); (try clear hi)) | (go_at_call 21; (with_reducible refine (text_Split.calls k (⟨#[]⟩ : ByteArray) 44 t167 _ A55.out).mono ?_); rintro e w81 ⟨v168, rfl, ho0, hb⟩; have n0_ := Aside0.mk (Kd.R_lower ho0 (below_size bl)); have n1_ := Aside0.mk (below_step bl hb); clear HB; have HO169 := n0_; have HB := n1_; clear n0_ n1_; (try clear hb); (try clear hb2); (try clear hk); (try clear hi); (try clear ho0); obtain ⟨Ao82, co82, eo82⟩ := Kd.R_slice HO169.out; subst eo82) | (go_at_call 13; (with_reducible refine (postriderlaw04_tells.calls k  t170 _ A57.out).mono ?_); rintro e w83 ⟨rfl, hb⟩; have n0_ := Aside0.mk (Kd.R_below (kr HO169.out) hb); have n1_ := Aside0.mk (below_step bl hb); clear HO169; clear HB; have HO169 := n0_; have HB := n1_; clear n0_ n1_; (try clear hb); (try clear hb2); (try clear hk); (try clear hi)))
                              go_ret
                              exact ⟨by first | rfl | (simp [bneNil]; done) | (simp [errW_none, errW_some] <;> rfl) | (simp [*, errW_none, errW_some] <;> rfl), by repeat (first | (with_reducible first | exact HB.out | apply below_alloc | apply pw_below_drewN | apply below_drew1) | exact HB.out)⟩
                             ·rw [if_neg c56] at H
                              have c56b0 : ((t167.length : Int) == 1) = false := beq_eq_false_iff_ne.mpr c56
                              have c56b1 : ((t167.length : Int) != 1) = true := bne_iff_ne.mpr c56
                              exact absurd ((Option.some.inj H).trans HT_r.out) (by decide)
                            ·rw [if_neg c54] at H
                             have c54b0 : (t166.toList == ([97, 32, 98] : List UInt8)) = false := beq_eq_false_iff_ne.mpr c54
                             have c54b1 : (t166.toList != ([97, 32, 98] : List UInt8)) = true := bne_iff_ne.mpr c54
                             exact absurd ((Option.some.inj H).trans HT_r.out) (by decide)
                         ·replace c48 := Bool.eq_false_iff.mpr c48
                          subst c48
                          have H1 : (some false) = some r := by rw [if_neg (show ¬ (false = true) by decide)] at H; exact H
                          clear H
                          have H := H1
                          clear H1
                          exact absurd ((Option.some.inj H).trans HT_r.out) (by decide)
                        ·rw [if_neg c46] at H
                         have c46b0 : (t162.toList == ([192, 97, 122, 91] : List UInt8)) = false := beq_eq_false_iff_ne.mpr c46
                         have c46b1 : (t162.toList != ([192, 97, 122, 91] : List UInt8)) = true := bne_iff_ne.mpr c46
                         exact absurd ((Option.some.inj H).trans HT_r.out) (by decide)
                   ·replace c36 := Bool.eq_false_iff.mpr c36
                    subst c36
                    have H1 : (some false) = some r := by rw [if_neg (show ¬ (false = true) by decide)] at H; exact H
                    clear H
                    have H := H1
                    clear H1
                    exact absurd ((Option.some.inj H).trans HT_r.out) (by decide)
               ·replace c28 := Bool.eq_false_iff.mpr c28
                subst c28
                have H1 : (some false) = some r := by rw [if_neg (show ¬ (false = true) by decide)] at H; exact H
                clear H
                have H := H1
                clear H1
                exact absurd ((Option.some.inj H).trans HT_r.out) (by decide)
              ·rw [if_neg c26] at H
               have c26b0 : (t152 == 5) = false := beq_eq_false_iff_ne.mpr c26
               have c26b1 : (t152 != 5) = true := bne_iff_ne.mpr c26
               exact absurd ((Option.some.inj H).trans HT_r.out) (by decide)
             ·rw [if_neg c25] at H
              have c25b0 : (t150 == 5) = false := beq_eq_false_iff_ne.mpr c25
              have c25b1 : (t150 != 5) = true := bne_iff_ne.mpr c25
              exact absurd ((Option.some.inj H).trans HT_r.out) (by decide)
            ·rw [if_neg c24] at H
             have c24b0 : (t148 == 0) = false := beq_eq_false_iff_ne.mpr c24
             have c24b1 : (t148 != 0) = true := bne_iff_ne.mpr c24
             exact absurd ((Option.some.inj H).trans HT_r.out) (by decide)
           ·rw [if_neg c23] at H
            have c23b0 : (t147 == 999999999999999) = false := beq_eq_false_iff_ne.mpr c23
            have c23b1 : (t147 != 999999999999999) = true := bne_iff_ne.mpr c23
            exact absurd ((Option.some.inj H).trans HT_r.out) (by decide)
          ·rw [if_neg c22] at H
           have c22b0 : (t146 == 5) = false := beq_eq_false_iff_ne.mpr c22
           have c22b1 : (t146 != 5) = true := bne_iff_ne.mpr c22
           exact absurd ((Option.some.inj H).trans HT_r.out) (by decide)
         ·rw [if_neg c21] at H
          have c21b0 : (t144 == 0) = false := beq_eq_false_iff_ne.mpr c21
          have c21b1 : (t144 != 0) = true := bne_iff_ne.mpr c21
          exact absurd ((Option.some.inj H).trans HT_r.out) (by decide)
        ·rw [if_neg c20] at H
         have c20b0 : (t142 == 5) = false := beq_eq_false_iff_ne.mpr c20
         have c20b1 : (t142 != 5) = true := bne_iff_ne.mpr c20
         exact absurd ((Option.some.inj H).trans HT_r.out) (by decide)
       ·rw [if_neg c19] at H
        have c19b0 : (t140 == 0) = false := beq_eq_false_iff_ne.mpr c19
        have c19b1 : (t140 != 0) = true := bne_iff_ne.mpr c19
        exact absurd ((Option.some.inj H).trans HT_r.out) (by decide)
      ·rw [if_neg c18] at H
       have c18b0 : (t139 == 42) = false := beq_eq_false_iff_ne.mpr c18
       have c18b1 : (t139 != 42) = true := bne_iff_ne.mpr c18
       exact absurd ((Option.some.inj H).trans HT_r.out) (by decide)
     ·rw [if_neg c17] at H
      have c17b0 : (t138 == 4) = false := beq_eq_false_iff_ne.mpr c17
      have c17b1 : (t138 != 4) = true := bne_iff_ne.mpr c17
      exact absurd ((Option.some.inj H).trans HT_r.out) (by decide)
    ·rw [if_neg c16] at H
     have c16b0 : (t136 == 0) = false := beq_eq_false_iff_ne.mpr c16
     have c16b1 : (t136 != 0) = true := bne_iff_ne.mpr c16
     exact absurd ((Option.some.inj H).trans HT_r.out) (by decide)
   ·rw [if_neg c15] at H
    have c15b0 : (t135 == 0) = false := beq_eq_false_iff_ne.mpr c15
    have c15b1 : (t135 != 0) = true := bne_iff_ne.mpr c15
    exact absurd ((Option.some.inj H).trans HT_r.out) (by decide)
  ·rw [if_neg c14] at H
   have c14b0 : (t134 == 0) = false := beq_eq_false_iff_ne.mpr c14
   have c14b1 : (t134 != 0) = true := bne_iff_ne.mpr c14
   exact absurd ((Option.some.inj H).trans HT_r.out) (by decide)
 ·rw [if_neg c13] at H
  have c13b0 : (t133 == 0) = false := beq_eq_false_iff_ne.mpr c13
  have c13b1 : (t133 != 0) = true := bne_iff_ne.mpr c13
  exact absurd ((Option.some.inj H).trans HT_r.out) (by decide)

/-- THE ONE PURE STATEMENT of postriderlaw04_TextKnown: yours. -/
def postriderlaw04_TextKnown.Pure : Prop := ∃ k, postriderlaw04_TextKnown.f k  = some true
theorem postriderlaw04_TextKnown.walk (P : postriderlaw04_TextKnown.Pure)  (w : World)  (hG : Glob w) :
  Calls Tryd.prog 4 #[] w fun e w' => e = .returned (.bool true) ∧ Below w.heap.size w w' := by
 obtain ⟨k, h⟩ := P  
 refine (postriderlaw04_TextKnown.calls k  true w hG rfl h).mono ?_
 rintro e w' ⟨rfl, hd⟩
 exact ⟨rfl, hd⟩

end Go.Proofs.YtfeihligcondgaaDoor.Q
end
