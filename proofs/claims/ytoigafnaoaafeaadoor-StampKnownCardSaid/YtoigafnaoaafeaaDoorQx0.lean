/- Walks of functions. -/
import Derived.Test.YtoigafnaoaafeaaDoorProg
import Derived.Below
import Derived.Deep.Draws
import Derived.Deep.AppendLies
import Derived.Maps.AppendAt
import Derived.OwnWalk
import Derived.Laws.BytesArg
import Derived.Laws.MakeOwn
import Derived.Laws.OwnMore
import Derived.Deep.OwnRows
import Derived.Tactics
import Derived.Lib.ConvBytes
import Derived.Laws.Slices
import Derived.WalkKit
import Derived.KernelRfl
import Derived.RowKit3
import Derived.Deep.LoopGhost
import Derived.Deep.QuietTactic
import Derived.BigQuiet
import Derived.WideLaws
import Derived.Deep.DeepCutAuto
import Derived.Deep.CutBlock
import Derived.Deep.RegionHeld3
import Derived.Laws.Rows
import Derived.Lib.AppendStr
import Derived.ArgAppend
import Derived.Laws.IdiomCopy
import Derived.OrdersHeld
import Derived.Laws.BitsLemmas
import Derived.RowKit
import Derived.Laws.RangeString
import Derived.Laws.RangeAny
import Derived.LoopTactic
import Derived.Lib.Hide
import Derived.IntWalk
import Derived.Test.YtoigafnaoaafeaaDoorG
import Derived.Test.YtoigafnaoaafeaaDoorH
import Derived.Test.YtoigafnaoaafeaaDoorBR
import Derived.Test.YtoigafnaoaafeaaDoorRS
import Derived.Test.YtoigafnaoaafeaaDoorOP
import Derived.Test.YtoigafnaoaafeaaDoorAR
import Derived.Test.YtoigafnaoaafeaaDoorMP
import Derived.Test.YtoigafnaoaafeaaDoorMI
import Derived.Test.YtoigafnaoaafeaaDoorKB
import Derived.Test.YtoigafnaoaafeaaDoorV
section
namespace Go.Proofs.YtoigafnaoaafeaaDoor.Q
open Go.RowKit Go.Proofs.YtoigafnaoaafeaaDoorW.PrintWords Go.Proofs.YtoigafnaoaafeaaDoorW.PrintLast Go.Proofs.YtoigafnaoaafeaaDoorW.PrintMore
attribute [local go_sem] max2_int min2_int max_two min_two max_three min_three max_four min_four   -- for this text's walks alone
set_option linter.unusedVariables false
set_option linter.unusedSimpArgs false



def errW : Option Int → Value
  | none => .nilIface
  | some c => .iface 0 (.int .i64 c)
theorem errW_none : errW none = .nilIface := rfl
theorem errW_some (c : Int) : errW (some c) = .iface 0 (.int .i64 c) := rfl

theorem info9 : (Tryd.prog.info? 9).map (fun i => (i.zero, i.size, i.bytes)) = some (some (.string ⟨#[]⟩), 1, 16) := by kernel_rfl
-- the values' own types

end Go.Proofs.YtoigafnaoaafeaaDoor.Q
end
section
namespace Go.Proofs.YtoigafnaoaafeaaDoor.Q
open Go.RowKit Go.Proofs.YtoigafnaoaafeaaDoorW.PrintWords Go.Proofs.YtoigafnaoaafeaaDoorW.PrintLast Go.Proofs.YtoigafnaoaafeaaDoorW.PrintMore
attribute [local go_sem] max2_int min2_int max_two min_two max_three min_three max_four min_four   -- for this text's walks alone
set_option linter.unusedVariables false
set_option linter.unusedSimpArgs false

/-! ### stamp_clean: function 23 -/
def stamp_clean.f (a0 : Int) : Option (Int) := some (mx (mn a0 1099511627776) 0)
set_option maxHeartbeats 8000000 in
set_option maxRecDepth 100000 in
theorem stamp_clean.calls (a0 : Int) (r : Int) (w : World) (h : stamp_clean.f a0 = some r) :
    Calls Tryd.prog 23 #[.int .i64 a0] w fun e w' => e = .returned (.int .i64 r) ∧ Below w.heap.size w w' := by
  have HB := Aside0.mk (Below.refl w.heap.size w)
  have H : (some (mx (mn a0 1099511627776) 0)) = some r := h
  clear h
  obtain ⟨ji2, hji2⟩ : ∃ j_ : Int, (mn a0 1099511627776) = j_ := ⟨_, rfl⟩
  replace H : (some (mx (ji2) 0)) = some r := by first | (rw [hji2] at H; exact H) | (simp only [hji2] at H ⊢; exact H)
  (try (have hji2h : ji2 ≤ 1099511627776 := by (rw [← hji2]; unfold mn; (repeat' split) <;> omega)))
  (try (have hji2g : ji2 ≤ 64 := by omega))
  have hji2_ : (if 1099511627776 < a0 then 1099511627776 else a0) = ji2 := hji2
  obtain ⟨ji3, hji3⟩ : ∃ j_ : Int, (mx (ji2) 0) = j_ := ⟨_, rfl⟩
  replace H : (some ji3) = some r := by first | (rw [hji3] at H; exact H) | (simp only [hji3] at H ⊢; exact H)
  have hji3_ : (if (ji2) < 0 then 0 else (ji2)) = ji3 := hji3
  obtain rfl := Option.some.inj H
  go_enter Tryd.func23, Tryd.ntmps23
  go_wp2
  go_ret
  exact ⟨by first | rfl | (simp [bneNil]; done) | (simp [errW_none, errW_some] <;> rfl) | (simp only [← hji2, ← hji3]; first | rfl | (simp [errW_none, errW_some] <;> rfl)) | (simp [*, errW_none, errW_some] <;> rfl), by repeat (first | (with_reducible first | exact HB.out | apply below_alloc | apply pw_below_drewN | apply below_drew1) | exact HB.out)⟩

/-! ### stamp_Day: function 8 -/
def stamp_Day.f (a0 : Int) : Option (Int) := (stamp_clean.f a0).bind fun t101 => (some (wrap64 (Int.tdiv t101 86400)))
set_option maxHeartbeats 8000000 in
set_option maxRecDepth 100000 in
theorem stamp_Day.calls (a0 : Int) (r : Int) (w : World) (h : stamp_Day.f a0 = some r) :
    Calls Tryd.prog 8 #[.int .i64 a0] w fun e w' => e = .returned (.int .i64 r) ∧ Below w.heap.size w w' := by
  have HB := Aside0.mk (Below.refl w.heap.size w)
  have H : ((stamp_clean.f a0).bind fun t101 => (some (wrap64 (Int.tdiv t101 86400)))) = some r := h
  clear h
  replace H := Option.bind_eq_some_iff.mp H
  obtain ⟨t101, A20, H⟩ := H
  replace H : (some (wrap64 (Int.tdiv t101 86400))) = some r := H
  have A2 := Aside0.mk A20
  clear A20
  obtain rfl := Option.some.inj H
  go_enter Tryd.func8, Tryd.ntmps8
  go_wp2_with (first | ((with_reducible refine gate_callee (f := 23) rfl ?_); refine goesL_ (some 4) rfl rfl Tryd.func23 (by kernel_rfl) rfl #[.int .i64 a0] rfl (by (try simp only [List.map_toArray, List.map_cons, List.map_nil]); first | done | rfl | (simp only [List.length_drop, List.length_take]; rfl)) ?_; (with_reducible refine (stamp_clean.calls a0 t101 _ A2.out).mono ?_); rintro e w3 ⟨rfl, hb⟩; refine ⟨_, rfl, ?_⟩; have n0_ := Aside0.mk (below_step (by repeat (first | (with_reducible first | exact HB.out | apply below_alloc | apply pw_below_drewN | apply below_drew1) | exact HB.out)) hb); clear HB; have HB := n0_; clear n0_; (try clear hb); (try clear hb2); (try clear hk); (try clear hi)))
  go_ret
  exact ⟨by first | rfl | (simp [bneNil]; done) | (simp [errW_none, errW_some] <;> rfl) | (simp [*, errW_none, errW_some] <;> rfl), by repeat (first | (with_reducible first | exact HB.out | apply below_alloc | apply pw_below_drewN | apply below_drew1) | exact HB.out)⟩

/-! ### stamp_Text: function 10 -/
def stamp_Text.f (a0 : Int) : Option (ByteArray) := if 0 ≤ (((mx a0 0) % 1024) / 32) then (if (((mx a0 0) % 1024) / 32) ≤ ((((mx a0 0) % 1024) / 32) + 1) then (if ((((mx a0 0) % 1024) / 32) + 1) ≤ 32 then (if 0 ≤ (((mx a0 0) % 1024) % 32) then (if (((mx a0 0) % 1024) % 32) ≤ ((((mx a0 0) % 1024) % 32) + 1) then (if ((((mx a0 0) % 1024) % 32) + 1) ≤ 32 then (if ((⟨#[65, 66, 67, 68, 69, 70, 71, 72, 73, 74, 75, 76, 77, 78, 79, 80, 81, 82, 83, 84, 85, 86, 87, 88, 89, 90, 50, 51, 52, 53, 54, 55]⟩ : ByteArray).extract ((((mx a0 0) % 1024) / 32) : Int).toNat (((((mx a0 0) % 1024) / 32) + 1) : Int).toNat).size + ((⟨#[65, 66, 67, 68, 69, 70, 71, 72, 73, 74, 75, 76, 77, 78, 79, 80, 81, 82, 83, 84, 85, 86, 87, 88, 89, 90, 50, 51, 52, 53, 54, 55]⟩ : ByteArray).extract ((((mx a0 0) % 1024) % 32) : Int).toNat (((((mx a0 0) % 1024) % 32) + 1) : Int).toNat).size ≤ 9223372036854775807 then (some (((⟨#[65, 66, 67, 68, 69, 70, 71, 72, 73, 74, 75, 76, 77, 78, 79, 80, 81, 82, 83, 84, 85, 86, 87, 88, 89, 90, 50, 51, 52, 53, 54, 55]⟩ : ByteArray).extract ((((mx a0 0) % 1024) / 32) : Int).toNat (((((mx a0 0) % 1024) / 32) + 1) : Int).toNat) ++ ((⟨#[65, 66, 67, 68, 69, 70, 71, 72, 73, 74, 75, 76, 77, 78, 79, 80, 81, 82, 83, 84, 85, 86, 87, 88, 89, 90, 50, 51, 52, 53, 54, 55]⟩ : ByteArray).extract ((((mx a0 0) % 1024) % 32) : Int).toNat (((((mx a0 0) % 1024) % 32) + 1) : Int).toNat))) else (none)) else (none)) else (none)) else (none)) else (none)) else (none)) else (none)
set_option maxHeartbeats 8000000 in
set_option maxRecDepth 100000 in
theorem stamp_Text.calls (a0 : Int) (r : ByteArray) (w : World) (h : stamp_Text.f a0 = some r) :
    Calls Tryd.prog 10 #[.int .i64 a0] w fun e w' => e = .returned (.string r) ∧ Below w.heap.size w w' := by
  have HB := Aside0.mk (Below.refl w.heap.size w)
  have H : (if 0 ≤ (((mx a0 0) % 1024) / 32) then (if (((mx a0 0) % 1024) / 32) ≤ ((((mx a0 0) % 1024) / 32) + 1) then (if ((((mx a0 0) % 1024) / 32) + 1) ≤ 32 then (if 0 ≤ (((mx a0 0) % 1024) % 32) then (if (((mx a0 0) % 1024) % 32) ≤ ((((mx a0 0) % 1024) % 32) + 1) then (if ((((mx a0 0) % 1024) % 32) + 1) ≤ 32 then (if ((⟨#[65, 66, 67, 68, 69, 70, 71, 72, 73, 74, 75, 76, 77, 78, 79, 80, 81, 82, 83, 84, 85, 86, 87, 88, 89, 90, 50, 51, 52, 53, 54, 55]⟩ : ByteArray).extract ((((mx a0 0) % 1024) / 32) : Int).toNat (((((mx a0 0) % 1024) / 32) + 1) : Int).toNat).size + ((⟨#[65, 66, 67, 68, 69, 70, 71, 72, 73, 74, 75, 76, 77, 78, 79, 80, 81, 82, 83, 84, 85, 86, 87, 88, 89, 90, 50, 51, 52, 53, 54, 55]⟩ : ByteArray).extract ((((mx a0 0) % 1024) % 32) : Int).toNat (((((mx a0 0) % 1024) % 32) + 1) : Int).toNat).size ≤ 9223372036854775807 then (some (((⟨#[65, 66, 67, 68, 69, 70, 71, 72, 73, 74, 75, 76, 77, 78, 79, 80, 81, 82, 83, 84, 85, 86, 87, 88, 89, 90, 50, 51, 52, 53, 54, 55]⟩ : ByteArray).extract ((((mx a0 0) % 1024) / 32) : Int).toNat (((((mx a0 0) % 1024) / 32) + 1) : Int).toNat) ++ ((⟨#[65, 66, 67, 68, 69, 70, 71, 72, 73, 74, 75, 76, 77, 78, 79, 80, 81, 82, 83, 84, 85, 86, 87, 88, 89, 90, 50, 51, 52, 53, 54, 55]⟩ : ByteArray).extract ((((mx a0 0) % 1024) % 32) : Int).toNat (((((mx a0 0) % 1024) % 32) + 1) : Int).toNat))) else (none)) else (none)) else (none)) else (none)) else (none)) else (none)) else (none)) = some r := h
  clear h
  obtain ⟨ji2, hji2⟩ : ∃ j_ : Int, (mx a0 0) = j_ := ⟨_, rfl⟩
  replace H : (if 0 ≤ (((ji2) % 1024) / 32) then (if (((ji2) % 1024) / 32) ≤ ((((ji2) % 1024) / 32) + 1) then (if ((((ji2) % 1024) / 32) + 1) ≤ 32 then (if 0 ≤ (((ji2) % 1024) % 32) then (if (((ji2) % 1024) % 32) ≤ ((((ji2) % 1024) % 32) + 1) then (if ((((ji2) % 1024) % 32) + 1) ≤ 32 then (if ((⟨#[65, 66, 67, 68, 69, 70, 71, 72, 73, 74, 75, 76, 77, 78, 79, 80, 81, 82, 83, 84, 85, 86, 87, 88, 89, 90, 50, 51, 52, 53, 54, 55]⟩ : ByteArray).extract ((((ji2) % 1024) / 32) : Int).toNat (((((ji2) % 1024) / 32) + 1) : Int).toNat).size + ((⟨#[65, 66, 67, 68, 69, 70, 71, 72, 73, 74, 75, 76, 77, 78, 79, 80, 81, 82, 83, 84, 85, 86, 87, 88, 89, 90, 50, 51, 52, 53, 54, 55]⟩ : ByteArray).extract ((((ji2) % 1024) % 32) : Int).toNat (((((ji2) % 1024) % 32) + 1) : Int).toNat).size ≤ 9223372036854775807 then (some (((⟨#[65, 66, 67, 68, 69, 70, 71, 72, 73, 74, 75, 76, 77, 78, 79, 80, 81, 82, 83, 84, 85, 86, 87, 88, 89, 90, 50, 51, 52, 53, 54, 55]⟩ : ByteArray).extract ((((ji2) % 1024) / 32) : Int).toNat (((((ji2) % 1024) / 32) + 1) : Int).toNat) ++ ((⟨#[65, 66, 67, 68, 69, 70, 71, 72, 73, 74, 75, 76, 77, 78, 79, 80, 81, 82, 83, 84, 85, 86, 87, 88, 89, 90, 50, 51, 52, 53, 54, 55]⟩ : ByteArray).extract ((((ji2) % 1024) % 32) : Int).toNat (((((ji2) % 1024) % 32) + 1) : Int).toNat))) else (none)) else (none)) else (none)) else (none)) else (none)) else (none)) else (none)) = some r := by first | (rw [hji2] at H; exact H) | (simp only [hji2] at H ⊢; exact H)
  (try (have hji2l : 0 ≤ ji2 := by (rw [← hji2]; unfold mx; (repeat' split) <;> omega)))
  (try (have hji2m : 0 ≤ ji2 := by omega))
  have hji2_ : (if a0 < 0 then 0 else a0) = ji2 := hji2
  obtain ⟨ji3, hji3⟩ : ∃ j_ : Int, (((ji2) % 1024) / 32) = j_ := ⟨_, rfl⟩
  replace H : (if 0 ≤ (ji3) then (if (ji3) ≤ ((ji3) + 1) then (if ((ji3) + 1) ≤ 32 then (if 0 ≤ (((ji2) % 1024) % 32) then (if (((ji2) % 1024) % 32) ≤ ((((ji2) % 1024) % 32) + 1) then (if ((((ji2) % 1024) % 32) + 1) ≤ 32 then (if ((⟨#[65, 66, 67, 68, 69, 70, 71, 72, 73, 74, 75, 76, 77, 78, 79, 80, 81, 82, 83, 84, 85, 86, 87, 88, 89, 90, 50, 51, 52, 53, 54, 55]⟩ : ByteArray).extract ((ji3) : Int).toNat (((ji3) + 1) : Int).toNat).size + ((⟨#[65, 66, 67, 68, 69, 70, 71, 72, 73, 74, 75, 76, 77, 78, 79, 80, 81, 82, 83, 84, 85, 86, 87, 88, 89, 90, 50, 51, 52, 53, 54, 55]⟩ : ByteArray).extract ((((ji2) % 1024) % 32) : Int).toNat (((((ji2) % 1024) % 32) + 1) : Int).toNat).size ≤ 9223372036854775807 then (some (((⟨#[65, 66, 67, 68, 69, 70, 71, 72, 73, 74, 75, 76, 77, 78, 79, 80, 81, 82, 83, 84, 85, 86, 87, 88, 89, 90, 50, 51, 52, 53, 54, 55]⟩ : ByteArray).extract ((ji3) : Int).toNat (((ji3) + 1) : Int).toNat) ++ ((⟨#[65, 66, 67, 68, 69, 70, 71, 72, 73, 74, 75, 76, 77, 78, 79, 80, 81, 82, 83, 84, 85, 86, 87, 88, 89, 90, 50, 51, 52, 53, 54, 55]⟩ : ByteArray).extract ((((ji2) % 1024) % 32) : Int).toNat (((((ji2) % 1024) % 32) + 1) : Int).toNat))) else (none)) else (none)) else (none)) else (none)) else (none)) else (none)) else (none)) = some r := by first | (rw [hji3] at H; exact H) | (simp only [hji3] at H ⊢; exact H)
  by_cases c4 : 0 ≤ (ji3)
  · rw [if_pos c4] at H
    have c4b0 := eq_true c4
    have c4b1 : decide (0 ≤ (ji3)) = true := decide_eq_true c4
    clear c4
    by_cases c5 : (ji3) ≤ ((ji3) + 1)
    · rw [if_pos c5] at H
      have c5b0 := eq_true c5
      have c5b1 : decide ((ji3) ≤ ((ji3) + 1)) = true := decide_eq_true c5
      by_cases c6 : ((ji3) + 1) ≤ 32
      · rw [if_pos c6] at H
        have c6b0 := eq_true c6
        have c6b1 : decide (((ji3) + 1) ≤ 32) = true := decide_eq_true c6
        obtain ⟨ji7, hji7⟩ : ∃ j_ : Int, (((ji2) % 1024) % 32) = j_ := ⟨_, rfl⟩
        replace H : (if 0 ≤ (ji7) then (if (ji7) ≤ ((ji7) + 1) then (if ((ji7) + 1) ≤ 32 then (if ((⟨#[65, 66, 67, 68, 69, 70, 71, 72, 73, 74, 75, 76, 77, 78, 79, 80, 81, 82, 83, 84, 85, 86, 87, 88, 89, 90, 50, 51, 52, 53, 54, 55]⟩ : ByteArray).extract ((ji3) : Int).toNat (((ji3) + 1) : Int).toNat).size + ((⟨#[65, 66, 67, 68, 69, 70, 71, 72, 73, 74, 75, 76, 77, 78, 79, 80, 81, 82, 83, 84, 85, 86, 87, 88, 89, 90, 50, 51, 52, 53, 54, 55]⟩ : ByteArray).extract ((ji7) : Int).toNat (((ji7) + 1) : Int).toNat).size ≤ 9223372036854775807 then (some (((⟨#[65, 66, 67, 68, 69, 70, 71, 72, 73, 74, 75, 76, 77, 78, 79, 80, 81, 82, 83, 84, 85, 86, 87, 88, 89, 90, 50, 51, 52, 53, 54, 55]⟩ : ByteArray).extract ((ji3) : Int).toNat (((ji3) + 1) : Int).toNat) ++ ((⟨#[65, 66, 67, 68, 69, 70, 71, 72, 73, 74, 75, 76, 77, 78, 79, 80, 81, 82, 83, 84, 85, 86, 87, 88, 89, 90, 50, 51, 52, 53, 54, 55]⟩ : ByteArray).extract ((ji7) : Int).toNat (((ji7) + 1) : Int).toNat))) else (none)) else (none)) else (none)) else (none)) = some r := by first | (rw [hji7] at H; exact H) | (simp only [hji7] at H ⊢; exact H)
        by_cases c8 : 0 ≤ (ji7)
        · rw [if_pos c8] at H
          have c8b0 := eq_true c8
          have c8b1 : decide (0 ≤ (ji7)) = true := decide_eq_true c8
          clear c8
          by_cases c9 : (ji7) ≤ ((ji7) + 1)
          · rw [if_pos c9] at H
            have c9b0 := eq_true c9
            have c9b1 : decide ((ji7) ≤ ((ji7) + 1)) = true := decide_eq_true c9
            by_cases c10 : ((ji7) + 1) ≤ 32
            · rw [if_pos c10] at H
              have c10b0 := eq_true c10
              have c10b1 : decide (((ji7) + 1) ≤ 32) = true := decide_eq_true c10
              by_cases c11 : ((⟨#[65, 66, 67, 68, 69, 70, 71, 72, 73, 74, 75, 76, 77, 78, 79, 80, 81, 82, 83, 84, 85, 86, 87, 88, 89, 90, 50, 51, 52, 53, 54, 55]⟩ : ByteArray).extract ((ji3) : Int).toNat (((ji3) + 1) : Int).toNat).size + ((⟨#[65, 66, 67, 68, 69, 70, 71, 72, 73, 74, 75, 76, 77, 78, 79, 80, 81, 82, 83, 84, 85, 86, 87, 88, 89, 90, 50, 51, 52, 53, 54, 55]⟩ : ByteArray).extract ((ji7) : Int).toNat (((ji7) + 1) : Int).toNat).size ≤ 9223372036854775807
              · rw [if_pos c11] at H
                have c11b0 := eq_true c11
                have c11b1 : decide (((⟨#[65, 66, 67, 68, 69, 70, 71, 72, 73, 74, 75, 76, 77, 78, 79, 80, 81, 82, 83, 84, 85, 86, 87, 88, 89, 90, 50, 51, 52, 53, 54, 55]⟩ : ByteArray).extract ((ji3) : Int).toNat (((ji3) + 1) : Int).toNat).size + ((⟨#[65, 66, 67, 68, 69, 70, 71, 72, 73, 74, 75, 76, 77, 78, 79, 80, 81, 82, 83, 84, 85, 86, 87, 88, 89, 90, 50, 51, 52, 53, 54, 55]⟩ : ByteArray).extract ((ji7) : Int).toNat (((ji7) + 1) : Int).toNat).size ≤ 9223372036854775807) = true := decide_eq_true c11
                try have c11b2 : (9223372036854775807 < ((⟨#[65, 66, 67, 68, 69, 70, 71, 72, 73, 74, 75, 76, 77, 78, 79, 80, 81, 82, 83, 84, 85, 86, 87, 88, 89, 90, 50, 51, 52, 53, 54, 55]⟩ : ByteArray).extract ((ji3) : Int).toNat (((ji3) + 1) : Int).toNat).size + ((⟨#[65, 66, 67, 68, 69, 70, 71, 72, 73, 74, 75, 76, 77, 78, 79, 80, 81, 82, 83, 84, 85, 86, 87, 88, 89, 90, 50, 51, 52, 53, 54, 55]⟩ : ByteArray).extract ((ji7) : Int).toNat (((ji7) + 1) : Int).toNat).size) = False := eq_false (Nat.not_lt.2 c11)
                obtain rfl := Option.some.inj H
                go_enter Tryd.func10, Tryd.ntmps10
                go_wp2
                repeat (go_quiet (fail); try go_wp2)
                go_ret
                exact ⟨by first | rfl | (simp [bneNil]; done) | (simp [errW_none, errW_some] <;> rfl) | (simp only [← hji2, ← hji3, ← hji7]; first | rfl | (simp [errW_none, errW_some] <;> rfl)) | (simp [*, errW_none, errW_some] <;> rfl), by repeat (first | (with_reducible first | exact HB.out | apply below_alloc | apply pw_below_drewN | apply below_drew1) | exact HB.out)⟩
              · rw [if_neg c11] at H
                exact absurd H (by simp)
            · rw [if_neg c10] at H
              exact absurd H (by simp)
          · rw [if_neg c9] at H
            exact absurd H (by simp)
        · rw [if_neg c8] at H
          exact absurd H (by simp)
      · rw [if_neg c6] at H
        exact absurd H (by simp)
    · rw [if_neg c5] at H
      exact absurd H (by simp)
  · rw [if_neg c4] at H
    exact absurd H (by simp)

/-! ### stamp_Age: function 12 -/
def stamp_Age.f (a0 : Int) (a1 : Int) : Option (Int) := some (((((mx a1 0) % 1024) - ((mx a0 0) % 1024)) + 1024) % 1024)
set_option maxHeartbeats 8000000 in
set_option maxRecDepth 100000 in
theorem stamp_Age.calls (a0 : Int) (a1 : Int) (r : Int) (w : World) (h : stamp_Age.f a0 a1 = some r) :
    Calls Tryd.prog 12 #[.int .i64 a0, .int .i64 a1] w fun e w' => e = .returned (.int .i64 r) ∧ Below w.heap.size w w' := by
  have HB := Aside0.mk (Below.refl w.heap.size w)
  have H : (some (((((mx a1 0) % 1024) - ((mx a0 0) % 1024)) + 1024) % 1024)) = some r := h
  clear h
  obtain ⟨ji3, hji3⟩ : ∃ j_ : Int, (mx a1 0) = j_ := ⟨_, rfl⟩
  replace H : (some (((((ji3) % 1024) - ((mx a0 0) % 1024)) + 1024) % 1024)) = some r := by first | (rw [hji3] at H; exact H) | (simp only [hji3] at H ⊢; exact H)
  (try (have hji3l : 0 ≤ ji3 := by (rw [← hji3]; unfold mx; (repeat' split) <;> omega)))
  (try (have hji3m : 0 ≤ ji3 := by omega))
  have hji3_ : (if a1 < 0 then 0 else a1) = ji3 := hji3
  obtain ⟨ji4, hji4⟩ : ∃ j_ : Int, (mx a0 0) = j_ := ⟨_, rfl⟩
  replace H : (some (((((ji3) % 1024) - ((ji4) % 1024)) + 1024) % 1024)) = some r := by first | (rw [hji4] at H; exact H) | (simp only [hji4] at H ⊢; exact H)
  (try (have hji4l : 0 ≤ ji4 := by (rw [← hji4]; unfold mx; (repeat' split) <;> omega)))
  (try (have hji4m : 0 ≤ ji4 := by omega))
  have hji4_ : (if a0 < 0 then 0 else a0) = ji4 := hji4
  obtain rfl := Option.some.inj H
  go_enter Tryd.func12, Tryd.ntmps12
  go_wp2
  go_ret
  exact ⟨by first | rfl | (simp [bneNil]; done) | (simp [errW_none, errW_some] <;> rfl) | (simp only [← hji3, ← hji4]; first | rfl | (simp [errW_none, errW_some] <;> rfl)) | (simp [*, errW_none, errW_some] <;> rfl), by repeat (first | (with_reducible first | exact HB.out | apply below_alloc | apply pw_below_drewN | apply below_drew1) | exact HB.out)⟩

/-! ### stamp_ahead: function 26 (by hand) -/
def stamp_ahead.f (a0 : Int) : Option Int := if 1 ≤ a0 ∧ a0 ≤ 1000000000000 then some (365 * (a0 - 1970) + ((a0 - 1) / 4 - (a0 - 1) / 100 + (a0 - 1) / 400) - 477) else none
theorem stamp_ahead.calls (a0 : Int) (r : Int) (w : World) (h : stamp_ahead.f a0 = some r) :
    Calls Tryd.prog 26 #[.int .i64 a0] w fun e w' => e = .returned (.int .i64 r) ∧ Drawn0 w w' := by
  unfold stamp_ahead.f at h
  split at h
  · rename_i hs
    obtain ⟨h0, h1⟩ := hs
    obtain rfl := Option.some.inj h
    have e1 : wrap64 (a0 - 1970) = a0 - 1970 := by unfold wrap64; omega
    have e2 : wrap64 (365 * (a0 - 1970)) = 365 * (a0 - 1970) := by unfold wrap64; omega
    have e3 : wrap64 (a0 - 1) = a0 - 1 := by unfold wrap64; omega
    have t1 : Int.tdiv (a0 - 1) 4 = (a0 - 1) / 4 := Int.tdiv_eq_ediv_of_nonneg (by omega)
    have t2 : Int.tdiv (a0 - 1) 100 = (a0 - 1) / 100 := Int.tdiv_eq_ediv_of_nonneg (by omega)
    have t3 : Int.tdiv (a0 - 1) 400 = (a0 - 1) / 400 := Int.tdiv_eq_ediv_of_nonneg (by omega)
    have e4 : wrap64 ((a0 - 1) / 4 - (a0 - 1) / 100) = (a0 - 1) / 4 - (a0 - 1) / 100 := by unfold wrap64; omega
    have e5 : wrap64 ((a0 - 1) / 4 - (a0 - 1) / 100 + (a0 - 1) / 400) = (a0 - 1) / 4 - (a0 - 1) / 100 + (a0 - 1) / 400 := by unfold wrap64; omega
    have e6 : wrap64 (365 * (a0 - 1970) + ((a0 - 1) / 4 - (a0 - 1) / 100 + (a0 - 1) / 400)) = 365 * (a0 - 1970) + ((a0 - 1) / 4 - (a0 - 1) / 100 + (a0 - 1) / 400) := by unfold wrap64; omega
    have e7 : wrap64 (365 * (a0 - 1970) + ((a0 - 1) / 4 - (a0 - 1) / 100 + (a0 - 1) / 400) - 477) = 365 * (a0 - 1970) + ((a0 - 1) / 4 - (a0 - 1) / 100 + (a0 - 1) / 400) - 477 := by unfold wrap64; omega
    go_enter Tryd.func26, Tryd.ntmps26
    go_wp2
    go_ret
    exact ⟨by first | rfl | (simp [*]; done), by repeat (first | exact Drawn0.refl _ | apply Drawn0.step)⟩
  · cases h


/-! ### stamp_length: function 27 (by hand) -/
def leapB (y : Int) : Bool := decide (y % 4 = 0) && (decide (y % 100 ≠ 0) || decide (y % 400 = 0))
def stamp_length.f (a0 a1 : Int) : Option Int := if 0 ≤ a0 ∧ 0 ≤ a1 ∧ a1 < 12 then some (if a1 = 1 then (if leapB a0 then 29 else 28) else lnT.getD a1.toNat 0) else none
theorem stamp_length.calls (a0 a1 : Int) (r : Int) (w : World) (hG : Glob w) (h : stamp_length.f a0 a1 = some r) :
    Calls Tryd.prog 27 #[.int .i64 a0, .int .i64 a1] w fun e w' => e = .returned (.int .i64 r) ∧ Drawn0 w w' := by
  unfold stamp_length.f at h
  split at h
  · rename_i hs
    obtain ⟨h0, h1, h2⟩ := hs
    obtain ⟨m, rfl⟩ : ∃ m : Nat, a1 = (m : Int) := ⟨a1.toNat, by omega⟩
    have hc := hG.ln m (by omega)
    have t1 : Int.tmod a0 4 = a0 % 4 := Int.tmod_eq_emod_of_nonneg h0
    have t2 : Int.tmod a0 100 = a0 % 100 := Int.tmod_eq_emod_of_nonneg h0
    have t3 : Int.tmod a0 400 = a0 % 400 := Int.tmod_eq_emod_of_nonneg h0
    obtain rfl := Option.some.inj h
    by_cases hm : m = 1
    · subst hm
      unfold leapB
      by_cases c1 : a0 % 4 = 0 <;> by_cases c2 : a0 % 100 = 0 <;> by_cases c3 : a0 % 400 = 0
      all_goals (
        go_enter Tryd.func27, Tryd.ntmps27
        go_wp2
        go_ret
        exact ⟨by simp [c1, c2, c3, lnT] <;> rfl, by repeat (first | exact Drawn0.refl _ | apply Drawn0.step)⟩)
    · have b1 : ((m : Int) == 1) = false := beq_false_of_ne (by omega)
      rw [if_neg (by omega), Int.toNat_natCast]
      obtain ⟨z, hz⟩ : ∃ z, lnT.getD m 0 = z := ⟨_, rfl⟩
      rw [hz] at hc ⊢
      go_enter Tryd.func27, Tryd.ntmps27
      go_wp2
      go_ret
      exact ⟨by first | rfl | (simp [*]; done), by repeat (first | exact Drawn0.refl _ | apply Drawn0.step)⟩
  · cases h


/-! ### stamp_two: function 28 (by hand) -/
def twoB (n : Nat) : ByteArray := ⟨#[(48 + n / 10).toUInt8, (48 + n % 10).toUInt8]⟩
theorem two_all : ∀ n : Fin 100, ((⟨(Lib.decDigits n.val).toArray⟩ : ByteArray).size = if n.val < 10 then 1 else 2) ∧ (⟨(Lib.repeatL [48] (if n.val < 10 then 1 else 0)).toArray⟩ : ByteArray) ++ ⟨(Lib.decDigits n.val).toArray⟩ = twoB n.val := by decide +kernel
def stamp_two.f (a0 : Int) : Option ByteArray := if 0 ≤ a0 ∧ a0 < 100 then some (twoB a0.toNat) else none
theorem stamp_two.calls (a0 : Int) (r : ByteArray) (w : World) (h : stamp_two.f a0 = some r) :
    Calls Tryd.prog 28 #[.int .i64 a0] w fun e w' => e = .returned (.string r) ∧ Below w.heap.size w w' := by
  unfold stamp_two.f at h
  split at h
  · rename_i hs
    obtain rfl := Option.some.inj h
    obtain ⟨n, rfl⟩ : ∃ n : Nat, a0 = (n : Int) := ⟨a0.toNat, by omega⟩
    rw [Int.toNat_natCast]
    have hn : n < 100 := by omega
    obtain ⟨h1, h2⟩ := two_all ⟨n, hn⟩
    have cF := fun W => Tryd.strconv_FormatInt_10_small n hn W
    simp only at h1 h2
    obtain ⟨p, hp⟩ : ∃ p : ByteArray, (⟨(Lib.decDigits n).toArray⟩ : ByteArray) = p := ⟨_, rfl⟩
    rw [hp] at h1 h2
    simp only [hp] at cF
    obtain ⟨c, hc⟩ : ∃ c : Nat, (if n < 10 then 1 else 0) = c := ⟨_, rfl⟩
    have hc2 : c ≤ 1 := by rw [← hc]; split <;> omega
    have hc3 : p.size + c = 2 := by rw [h1, ← hc]; split <;> rfl
    rw [hc] at h2
    have cR := fun W => Tryd.strings_Repeat ⟨#[48]⟩ c W (by omega) (by show 1 * c ≤ _; omega)
    obtain ⟨z, hz⟩ : ∃ z : ByteArray, (⟨(Lib.repeatL (⟨#[48]⟩ : ByteArray).data.toList c).toArray⟩ : ByteArray) = z := ⟨_, rfl⟩
    have h2' : z ++ p = twoB n := by rw [← hz]; exact h2
    simp only [hz] at cR
    have hzs : z.size ≤ 2 := by
      have e := congrArg ByteArray.size h2'
      rw [ByteArray.size_append] at e
      have : (twoB n).size = 2 := rfl
      omega
    have hw : wrap64 (2 - (p.size : Int)) = (c : Int) := by unfold wrap64; omega
    have hw2 : (2 : Int) - (p.size : Int) = (c : Int) := by omega
    have hsum : z.size + p.size ≤ 9223372036854775807 := by omega
    clear h1 h2 hp hz hc
    go_enter Tryd.func28, Tryd.ntmps28
    go_wp2_with (first | (go_at_call 30; go_must (refine (cF _).mono ?_; rintro e W1 ⟨rfl, rfl⟩)) | (go_at_call 48; go_must ((first | rw [hw] | rw [hw2] | skip); refine (cR _).mono ?_; rintro e W2 ⟨rfl, b2⟩)))
    go_ret
    exact ⟨rfl, b2⟩
  · cases h


/-! ### strings_Join: function 29 (by hand) -/
def strings_Join.f (l0 : List ByteArray) (a1 : ByteArray) : Option ByteArray := match l0 with
  | [] => none
  | x :: t => if (x :: t).length ≤ 140737488355328 ∧ (Lib.join ((x :: t).map (·.data.toList)) a1.data.toList).length ≤ 140737488355328 then some ⟨(Lib.join ((x :: t).map (·.data.toList)) a1.data.toList).toArray⟩ else none
theorem join_cells {w : World} {A : Option Addr} {l : List ByteArray} (h : Kd.C Kd.string w A l.length l) (hl : 0 < l.length) : ∃ bk o, A = some ⟨bk, o, none⟩ ∧ bk < w.heap.size ∧ ∀ (j : Nat) x, l[j]? = some x → w.cell? ⟨bk, o + j, none⟩ = some (.string x) := by
  obtain ⟨_, _, h3⟩ : ReadsOf Value.string ByteArray.empty w A l.length l := Kd.reads_of_C h
  obtain ⟨⟨bk, o, sp⟩, rfl, hc⟩ := h3 hl
  have hsp : sp = none := by
    have h0 := hc 0 hl
    have := World.block_lt_of_cell? w _ h0
    cases sp with
    | none => rfl
    | some q =>
      exfalso
      unfold Addr.add at h0
      simp [World.cell?] at h0
      revert h0
      split <;> simp
  subst hsp
  refine ⟨bk, o, rfl, World.block_lt_of_cell? w _ (hc 0 hl), ?_⟩
  intro j x hj
  have hj' : j < l.length := (List.getElem?_eq_some_iff.1 hj).1
  have := hc j hj'
  have e : (⟨bk, o, none⟩ : Addr).add j = ⟨bk, o + j, none⟩ := by unfold Addr.add; split <;> simp_all
  rw [e] at this
  rw [this, List.getD_eq_getElem?_getD, hj]; rfl
theorem strings_Join.calls (A0 : Option Addr) (c0 : Nat) (l0 : List ByteArray) (a1 : ByteArray) (r : ByteArray) (w : World) (hr0 : Kd.C Kd.string w A0 l0.length l0) (hc0 : l0.length ≤ c0) (h : strings_Join.f l0 a1 = some r) :
    Calls Tryd.prog 29 #[.slice A0 l0.length c0, .string a1] w fun e w' => e = .returned (.string r) ∧ Below w.heap.size w w' := by
  unfold strings_Join.f at h
  split at h
  · cases h
  · rename_i x t
    split at h
    · rename_i hb
      obtain rfl := Option.some.inj h
      obtain ⟨bk, o, rfl, hbk, hc⟩ := join_cells hr0 (by simp)
      exact Tryd.strings_Join bk o c0 (x :: t) a1 w hc hbk hb.1 hc0 hb.2
    · cases h


/-! ### strconv_FormatInt: function 30 (by hand) -/
def strconv_FormatInt.f (a0 a1 : Int) : Option ByteArray := if a1 = 10 ∧ -9223372036854775808 ≤ a0 ∧ a0 ≤ 9223372036854775807 then some ⟨(Lib.itoa a0).toArray⟩ else none
theorem strconv_FormatInt.calls (a0 a1 : Int) (r : ByteArray) (w : World) (hG : Glob w) (h : strconv_FormatInt.f a0 a1 = some r) :
    Calls Tryd.prog 30 #[.int .i64 a0, .int .i64 a1] w fun e w' => e = .returned (.string r) ∧ Below w.heap.size w w' := by
  unfold strconv_FormatInt.f at h
  split at h
  · rename_i hs
    obtain ⟨rfl, h0, h1⟩ := hs
    obtain rfl := Option.some.inj h
    refine (Tryd.strconv_FormatInt_10 a0 h0 h1 w hG.p10).mono ?_
    rintro e w' ⟨rfl, k, os, rfl⟩
    exact ⟨rfl, Lib.below_grow _ _ (Nat.le_refl _) _ _⟩
  · cases h


/-! ### stamp_Date: function 14 -/
mutual
def stamp_Date.l0 : Nat → Int → Int → ByteArray → Int → Option (ByteArray)
 | 0, _, _, _, _ => none
 | k + 1, x3, x4, x5, x6 => (stamp_ahead.f x6).bind fun t104 => (if t104 > x3 then (stamp_Date.l0 k x3 x4 x5 (wrap64 (x6 - 1))) else (stamp_Date.l1 k x3 x4 x5 x6))
def stamp_Date.l1 : Nat → Int → Int → ByteArray → Int → Option (ByteArray)
 | 0, _, _, _, _ => none
 | k + 1, x3, x4, x5, x6 => (stamp_ahead.f (wrap64 (x6 + 1))).bind fun t105 => (if t105 ≤ x3 then (stamp_Date.l1 k x3 x4 x5 (wrap64 (x6 + 1))) else ((stamp_ahead.f x6).bind fun t106 => (stamp_Date.l2 k x4 x5 x6 (wrap64 (x3 - t106)) 0)))
def stamp_Date.l2 : Nat → Int → ByteArray → Int → Int → Int → Option (ByteArray)
 | 0, _, _, _, _, _ => none
 | k + 1, x4, x5, x6, x7, x8 => (stamp_length.f x6 x8).bind fun t107 => (if x7 ≥ t107 then ((stamp_length.f x6 x8).bind fun t108 => (stamp_Date.l2 k x4 x5 x6 (wrap64 (x7 - t108)) (wrap64 (x8 + 1)))) else ((stamp_two.f (wrap64 (Int.tdiv x4 3600))).bind fun t109 => (if t109.size + 1 ≤ 9223372036854775807 then ((stamp_two.f (Int.tmod (wrap64 (Int.tdiv x4 60)) 60)).bind fun t110 => (if (t109 ++ (⟨#[58]⟩ : ByteArray)).size + t110.size ≤ 9223372036854775807 then (if ((t109 ++ (⟨#[58]⟩ : ByteArray)) ++ t110).size + 1 ≤ 9223372036854775807 then ((stamp_two.f (Int.tmod x4 60)).bind fun t111 => (if (((t109 ++ (⟨#[58]⟩ : ByteArray)) ++ t110) ++ (⟨#[58]⟩ : ByteArray)).size + t111.size ≤ 9223372036854775807 then (if x5.size + 1 ≤ 9223372036854775807 then ((stamp_two.f (wrap64 (x7 + 1))).bind fun t112 => (if 0 ≤ x8 then (if x8 < 12 then ((strconv_FormatInt.f x6 10).bind fun t114 => ((strings_Join.f (([x5 ++ (⟨#[44]⟩ : ByteArray), t112, rdOf ByteArray.empty moT x8, t114, (((t109 ++ (⟨#[58]⟩ : ByteArray)) ++ t110) ++ (⟨#[58]⟩ : ByteArray)) ++ t111, (⟨#[43, 48, 48, 48, 48]⟩ : ByteArray)] : List ByteArray)) (⟨#[32]⟩ : ByteArray)).bind fun t118 => (some t118))) else (none)) else (none))) else (none)) else (none))) else (none)) else (none))) else (none))))
end
def stamp_Date.f (k : Nat) (a0 : Int) : Option (ByteArray) := (stamp_clean.f a0).bind fun t102 => (if 0 ≤ (Int.tmod (wrap64 ((wrap64 (Int.tdiv t102 86400)) + 4)) 7) then (if (Int.tmod (wrap64 ((wrap64 (Int.tdiv t102 86400)) + 4)) 7) < 7 then (stamp_Date.l0 k (wrap64 (Int.tdiv t102 86400)) (Int.tmod t102 86400) (rdOf ByteArray.empty wdT (Int.tmod (wrap64 ((wrap64 (Int.tdiv t102 86400)) + 4)) 7)) (wrap64 (1970 + (wrap64 (Int.tdiv (wrap64 ((wrap64 (Int.tdiv t102 86400)) * 400)) 146097))))) else (none)) else (none))
theorem stamp_Date.mono_l : ∀ k, (∀ y0 y1 y2 y3, LeO (stamp_Date.l0 k y0 y1 y2 y3) (stamp_Date.l0 (k + 1) y0 y1 y2 y3)) ∧ (∀ y0 y1 y2 y3, LeO (stamp_Date.l1 k y0 y1 y2 y3) (stamp_Date.l1 (k + 1) y0 y1 y2 y3)) ∧ (∀ y0 y1 y2 y3 y4, LeO (stamp_Date.l2 k y0 y1 y2 y3 y4) (stamp_Date.l2 (k + 1) y0 y1 y2 y3 y4))
 | 0 => ⟨fun _ _ _ _ r h => by simp [stamp_Date.l0] at h, fun _ _ _ _ r h => by simp [stamp_Date.l1] at h, fun _ _ _ _ _ r h => by simp [stamp_Date.l2] at h⟩
 | k + 1 => by
  obtain ⟨ih0, ih1, ih2⟩ := stamp_Date.mono_l k
  refine ⟨?_, ?_, ?_⟩
  ·intro y0 y1 y2 y3
   unfold stamp_Date.l0
   repeat' first
   | (with_reducible exact ih0 _ _ _ _)
   | (with_reducible exact ih1 _ _ _ _)
   | (with_reducible exact ih2 _ _ _ _ _)
   | (with_reducible exact LeO.refl _)
   | (with_reducible exact LeO.none _)
   | (with_reducible refine LeO.ite ?_ ?_)
   | (with_reducible refine LeO.bind ?_ (fun _ => ?_))
   | exact ih0 _ _ _ _
   | exact ih1 _ _ _ _
   | exact ih2 _ _ _ _ _
   | exact LeO.none _
   | refine LeO.ite ?_ ?_
   | refine LeO.bind ?_ (fun _ => ?_)
  ·intro y0 y1 y2 y3
   unfold stamp_Date.l1
   repeat' first
   | (with_reducible exact ih0 _ _ _ _)
   | (with_reducible exact ih1 _ _ _ _)
   | (with_reducible exact ih2 _ _ _ _ _)
   | (with_reducible exact LeO.refl _)
   | (with_reducible exact LeO.none _)
   | (with_reducible refine LeO.ite ?_ ?_)
   | (with_reducible refine LeO.bind ?_ (fun _ => ?_))
   | exact ih0 _ _ _ _
   | exact ih1 _ _ _ _
   | exact ih2 _ _ _ _ _
   | exact LeO.none _
   | refine LeO.ite ?_ ?_
   | refine LeO.bind ?_ (fun _ => ?_)
  ·intro y0 y1 y2 y3 y4
   unfold stamp_Date.l2
   repeat' first
   | (with_reducible exact ih0 _ _ _ _)
   | (with_reducible exact ih1 _ _ _ _)
   | (with_reducible exact ih2 _ _ _ _ _)
   | (with_reducible exact LeO.refl _)
   | (with_reducible exact LeO.none _)
   | (with_reducible refine LeO.ite ?_ ?_)
   | (with_reducible refine LeO.bind ?_ (fun _ => ?_))
   | exact ih0 _ _ _ _
   | exact ih1 _ _ _ _
   | exact ih2 _ _ _ _ _
   | exact LeO.none _
   | refine LeO.ite ?_ ?_
   | refine LeO.bind ?_ (fun _ => ?_)
theorem stamp_Date.mono : ∀ a0 k, LeO (stamp_Date.f k a0) (stamp_Date.f (k + 1) a0) := by
 intro a0 k
 obtain ⟨ih0, ih1, ih2⟩ := stamp_Date.mono_l k
 unfold stamp_Date.f
 repeat' first
   | (with_reducible exact ih0 _ _ _ _)
   | (with_reducible exact ih1 _ _ _ _)
   | (with_reducible exact ih2 _ _ _ _ _)
   | (with_reducible exact LeO.refl _)
   | (with_reducible exact LeO.none _)
   | (with_reducible refine LeO.ite ?_ ?_)
   | (with_reducible refine LeO.bind ?_ (fun _ => ?_))
   | exact ih0 _ _ _ _
   | exact ih1 _ _ _ _
   | exact ih2 _ _ _ _ _
   | exact LeO.none _
   | refine LeO.ite ?_ ?_
   | refine LeO.bind ?_ (fun _ => ?_)
def stamp_Date.T14 : Bool × List (List Nat × List Nat) := (true, [([], []), ([0], [0]), ([], []), ([2], [2]), ([3], [3]), ([], []), ([5], [5]), ([6], [6]), ([], []), ([8, 4], [8]), ([], []), ([1, 4, 7, 9, 10], [1, 4, 7, 9, 10]), ([11, 9], [11]), ([12, 12, 0, 1, 2, 3, 4, 5, 6, 7, 8, 9, 10, 11, 12], [12])])
def stamp_Date.B14 : List Nat := [0, 1, 0, 4, 12, 0, 32, 96, 0, 284, 0, 2047, 4095, 8191]
theorem stamp_Date.tab14 : rtab .any (opsOf Tryd.f14 14) = stamp_Date.T14 := by kernel_rfl
theorem stamp_Date.bits14 : waitsOk stamp_Date.T14.2 stamp_Date.B14 = true := by kernel_rfl
set_option maxHeartbeats 8000000 in
set_option maxRecDepth 100000 in
theorem stamp_Date.calls (k : Nat) (a0 : Int) (r : ByteArray) (w : World) (hG : Glob w) (h : stamp_Date.f k a0 = some r) :
  Calls Tryd.prog 14 #[.int .i64 a0] w fun e w' => e = .returned (.string r) ∧ Below w.heap.size w w' := by
 have HB := Aside0.mk (Below.refl w.heap.size w)
 have HG := Aside0.mk hG
 have HRG0 := Aside0.mk hG.c0
 have HRG1 := Aside0.mk hG.c1
 clear hG
 have H : ((stamp_clean.f a0).bind fun t102 => (if 0 ≤ (Int.tmod (wrap64 ((wrap64 (Int.tdiv t102 86400)) + 4)) 7) then (if (Int.tmod (wrap64 ((wrap64 (Int.tdiv t102 86400)) + 4)) 7) < 7 then (stamp_Date.l0 k (wrap64 (Int.tdiv t102 86400)) (Int.tmod t102 86400) (rdOf ByteArray.empty wdT (Int.tmod (wrap64 ((wrap64 (Int.tdiv t102 86400)) + 4)) 7)) (wrap64 (1970 + (wrap64 (Int.tdiv (wrap64 ((wrap64 (Int.tdiv t102 86400)) * 400)) 146097))))) else (none)) else (none))) = some r := h
 clear h
 replace H := Option.bind_eq_some_iff.mp H
 obtain ⟨t102, A20, H⟩ := H
 replace H : (if 0 ≤ (Int.tmod (wrap64 ((wrap64 (Int.tdiv t102 86400)) + 4)) 7) then (if (Int.tmod (wrap64 ((wrap64 (Int.tdiv t102 86400)) + 4)) 7) < 7 then (stamp_Date.l0 k (wrap64 (Int.tdiv t102 86400)) (Int.tmod t102 86400) (rdOf ByteArray.empty wdT (Int.tmod (wrap64 ((wrap64 (Int.tdiv t102 86400)) + 4)) 7)) (wrap64 (1970 + (wrap64 (Int.tdiv (wrap64 ((wrap64 (Int.tdiv t102 86400)) * 400)) 146097))))) else (none)) else (none)) = some r := H
 have A2 := Aside0.mk A20
 clear A20
 obtain ⟨ji3, hji3⟩ : ∃ j_ : Int, (Int.tmod (wrap64 ((wrap64 (Int.tdiv t102 86400)) + 4)) 7) = j_ := ⟨_, rfl⟩
 replace H : (if 0 ≤ (ji3) then (if (ji3) < 7 then (stamp_Date.l0 k (wrap64 (Int.tdiv t102 86400)) (Int.tmod t102 86400) (rdOf ByteArray.empty wdT (ji3)) (wrap64 (1970 + (wrap64 (Int.tdiv (wrap64 ((wrap64 (Int.tdiv t102 86400)) * 400)) 146097))))) else (none)) else (none)) = some r := by first | (rw [hji3] at H; exact H) | (simp only [hji3] at H ⊢; exact H)
 (try rw [hji3] at A2)
 by_cases c4 : 0 ≤ (ji3)
 ·rw [if_pos c4] at H
  have c4b0 : decide (0 ≤ (ji3)) = true := decide_eq_true c4
  clear c4
  by_cases c5 : (ji3) < 7
  ·rw [if_pos c5] at H
   have c5b0 : decide ((ji3) < 7) = true := decide_eq_true c5
   clear c5
   have H' := Aside0.mk H
   clear H
   obtain ⟨rs_, hrs_⟩ : ∃ j_ : Int, (Int.tmod t102 86400) = j_ := ⟨_, rfl⟩
   rw [hrs_] at H'
   go_enter Tryd.func14, Tryd.ntmps14
   go_wp2_with (first | ((with_reducible refine gate_callee (f := 23) rfl ?_); refine goesL_ (some 11) rfl rfl Tryd.func23 (by kernel_rfl) rfl #[.int .i64 a0] rfl ml ?_; (with_reducible refine (stamp_clean.calls a0 t102 _ A2.out).mono ?_); rintro e w6 ⟨rfl, hb⟩; refine ⟨_, rfl, ?_⟩; have n0_ := Aside0.mk (below_step bl hb); clear HB; have HB := n0_; clear n0_; (try clear hb); (try clear hb2); (try clear hk); (try clear hi); have p103 : 0 ≤ ((ji3) : Int) := od; have q103 : (ji3) < (wdT.length : Int) := od; have ql103 : (((ji3) : Int) < (7 : Int)) = True := eq_true (od); obtain ⟨ad103, e103, hx103_0⟩ := Kd.at_string HRG0.out (ji3) p103 q103; obtain rfl : (⟨0, 0, none⟩ : Addr) = ad103 := (by injection e103); (first | simp only [add_plain] at hx103_0 | simp only [add_at] at hx103_0 | simp only [Addr.add, Nat.zero_add] at hx103_0 | skip); replace hx103_0 := (HB.out.cell (World.block_lt_of_cell? w _ hx103_0)).trans hx103_0; replace p103 := eq_true p103; replace q103 := eq_true q103))
   go_loopg [6] k (fun kq v6 w' => ∃ (x6_1 : Int), v6 = .int .i64 x6_1 ∧ Aside0 (stamp_Date.l0 kq (wrap64 (Int.tdiv t102 86400)) rs_ (rdOf ByteArray.empty wdT (ji3)) x6_1 = some r) ∧ Aside0 (kq ≤ k) ∧ Aside0 (Below w.heap.size w w'))
   case atStart => exact ⟨(wrap64 (1970 + (wrap64 (Int.tdiv (wrap64 ((wrap64 (Int.tdiv t102 86400)) * 400)) 146097)))), (by first | rfl | (simp; done) | (simp [*]; done)), H', ⟨Nat.le_refl _⟩, ⟨by repeat (first | (with_reducible first | exact HB.out | apply below_alloc | apply pw_below_drewN | apply below_drew1) | exact HB.out)⟩⟩
   case round =>
    clear H'
    try clear c1
    try clear p1
    try clear q1
    try clear hx1
    try clear c2
    try clear p2
    try clear c4
    try clear c4b0
    try clear c5
    try clear c5b0
    try clear p6
    try clear hx103_0
    try clear p103
    try clear q103
    obtain ⟨x6_1, rfl, HA, HK1, HB⟩ := hrel
    cases gk with
    | zero => exact absurd HA.out (by simp [stamp_Date.l0])
    | succ k1 =>
     have H := HA.out
     clear HA
     simp only [stamp_Date.l0] at H
     replace H := Option.bind_eq_some_iff.mp H
     obtain ⟨t104, A70, H⟩ := H
     replace H : (if t104 > (wrap64 (Int.tdiv t102 86400)) then (stamp_Date.l0 k1 (wrap64 (Int.tdiv t102 86400)) rs_ (rdOf ByteArray.empty wdT (ji3)) (wrap64 (x6_1 - 1))) else (stamp_Date.l1 k1 (wrap64 (Int.tdiv t102 86400)) rs_ (rdOf ByteArray.empty wdT (ji3)) x6_1)) = some r := H
     have A7 := Aside0.mk A70
     clear A70
     by_cases c8 : t104 > (wrap64 (Int.tdiv t102 86400))
     ·rw [if_pos c8] at H
      have c8b0 : decide ((wrap64 (Int.tdiv t102 86400)) < t104) = true := decide_eq_true c8
      clear c8
      have H' := Aside0.mk H
      clear H
      go_wp2_with (first | ((with_reducible refine gate_callee (f := 26) rfl ?_); refine goesL_ (some 26) rfl rfl Tryd.func26 (by kernel_rfl) rfl #[.int .i64 x6_1] rfl ml ?_; (with_reducible refine (stamp_ahead.calls x6_1 t104 _ A7.out).mono ?_); rintro e w' ⟨rfl, ⟨nd, rfl⟩⟩; refine ⟨_, rfl, ?_⟩))
      go_roundg k1
      case measure => have := HK1.out; omega
      case rel => exact ⟨(wrap64 (x6_1 - 1)), (by first | rfl | (simp; done) | (simp [*]; done)), H', ⟨by have := HK1.out; omega⟩, ⟨by repeat (first | (with_reducible first | exact HB.out | apply below_alloc | apply pw_below_drewN | apply below_drew1) | exact HB.out)⟩⟩
     ·rw [if_neg c8] at H
      have c8b0 : decide ((wrap64 (Int.tdiv t102 86400)) < t104) = false := decide_eq_false c8
      clear c8
      have H' := Aside0.mk H
      clear H
      go_wp2_with (first | ((with_reducible refine gate_callee (f := 26) rfl ?_); refine goesL_ (some 26) rfl rfl Tryd.func26 (by kernel_rfl) rfl #[.int .i64 x6_1] rfl ml ?_; (with_reducible refine (stamp_ahead.calls x6_1 t104 _ A7.out).mono ?_); rintro e w' ⟨rfl, ⟨nd, rfl⟩⟩; refine ⟨_, rfl, ?_⟩))
      go_loopg [6] k1 (fun kq v6 w' => ∃ (x6_2 : Int), v6 = .int .i64 x6_2 ∧ Aside0 (stamp_Date.l1 kq (wrap64 (Int.tdiv t102 86400)) rs_ (rdOf ByteArray.empty wdT (ji3)) x6_2 = some r) ∧ Aside0 (kq ≤ k1) ∧ Aside0 (Below w.heap.size w w'))
      case atStart => exact ⟨(x6_1), (by first | rfl | (simp; done) | (simp [*]; done)), H', ⟨Nat.le_refl _⟩, ⟨by repeat (first | (with_reducible first | exact HB.out | apply below_alloc | apply pw_below_drewN | apply below_drew1) | exact HB.out)⟩⟩
      case round =>
       clear H'
       try clear c1
       try clear p1
       try clear q1
       try clear hx1
       try clear c2
       try clear p2
       try clear c4
       try clear c4b0
       try clear c5
       try clear c5b0
       try clear p6
       try clear c8
       try clear c8b0
       try clear hx103_0
       try clear p1
       try clear p103
       try clear p2
       try clear p6
       try clear q1
       try clear q103
       obtain ⟨x6_2, rfl, HA, HK2, HB⟩ := hrel
       cases gk with
       | zero => exact absurd HA.out (by simp [stamp_Date.l1])
       | succ k2 =>
        have H := HA.out
        clear HA
        simp only [stamp_Date.l1] at H
        replace H := Option.bind_eq_some_iff.mp H
        obtain ⟨t105, A90, H⟩ := H
        replace H : (if t105 ≤ (wrap64 (Int.tdiv t102 86400)) then (stamp_Date.l1 k2 (wrap64 (Int.tdiv t102 86400)) rs_ (rdOf ByteArray.empty wdT (ji3)) (wrap64 (x6_2 + 1))) else ((stamp_ahead.f x6_2).bind fun t106 => (stamp_Date.l2 k2 rs_ (rdOf ByteArray.empty wdT (ji3)) x6_2 (wrap64 ((wrap64 (Int.tdiv t102 86400)) - t106)) 0))) = some r := H
        have A9 := Aside0.mk A90
        clear A90
        by_cases c10 : t105 ≤ (wrap64 (Int.tdiv t102 86400))
        ·rw [if_pos c10] at H
         have c10b0 : decide (t105 ≤ (wrap64 (Int.tdiv t102 86400))) = true := decide_eq_true c10
         clear c10
         have H' := Aside0.mk H
         clear H
         go_wp2_with (first | ((with_reducible refine gate_callee (f := 26) rfl ?_); refine goesL_ (some 33) rfl rfl Tryd.func26 (by kernel_rfl) rfl #[.int .i64 (wrap64 (x6_2 + 1))] rfl ml ?_; (with_reducible refine (stamp_ahead.calls (wrap64 (x6_2 + 1)) t105 _ A9.out).mono ?_); rintro e w' ⟨rfl, ⟨nd, rfl⟩⟩; refine ⟨_, rfl, ?_⟩))
         go_roundg k2
         case measure => have := HK1.out; have := HK2.out; omega
         case rel => exact ⟨(wrap64 (x6_2 + 1)), (by first | rfl | (simp; done) | (simp [*]; done)), H', ⟨by have := HK1.out; have := HK2.out; omega⟩, ⟨by repeat (first | (with_reducible first | exact HB.out | apply below_alloc | apply pw_below_drewN | apply below_drew1) | exact HB.out)⟩⟩
        ·rw [if_neg c10] at H
         have c10b0 : decide (t105 ≤ (wrap64 (Int.tdiv t102 86400))) = false := decide_eq_false c10
         clear c10
         replace H := Option.bind_eq_some_iff.mp H
         obtain ⟨t106, A110, H⟩ := H
         replace H : (stamp_Date.l2 k2 rs_ (rdOf ByteArray.empty wdT (ji3)) x6_2 (wrap64 ((wrap64 (Int.tdiv t102 86400)) - t106)) 0) = some r := H
         have A11 := Aside0.mk A110
         clear A110
         have H' := Aside0.mk H
         clear H
         go_wp2_with (first | ((with_reducible refine gate_callee (f := 26) rfl ?_); refine goesL_ (some 33) rfl rfl Tryd.func26 (by kernel_rfl) rfl #[.int .i64 (wrap64 (x6_2 + 1))] rfl ml ?_; (with_reducible refine (stamp_ahead.calls (wrap64 (x6_2 + 1)) t105 _ A9.out).mono ?_); rintro e w' ⟨rfl, ⟨nd, rfl⟩⟩; refine ⟨_, rfl, ?_⟩) | ((with_reducible refine gate_callee (f := 26) rfl ?_); refine goesL_ (some 40) rfl rfl Tryd.func26 (by kernel_rfl) rfl #[.int .i64 x6_2] rfl ml ?_; (with_reducible refine (stamp_ahead.calls x6_2 t106 _ A11.out).mono ?_); rintro e w' ⟨rfl, ⟨nd, rfl⟩⟩; refine ⟨_, rfl, ?_⟩))
         go_loopg [7, 8] k2 (fun kq v7 v8 w' => ∃ (x7_3 : Int) (x8_3 : Int), v7 = .int .i64 x7_3 ∧ v8 = .int .i64 x8_3 ∧ Aside0 (stamp_Date.l2 kq rs_ (rdOf ByteArray.empty wdT (ji3)) x6_2 x7_3 x8_3 = some r) ∧ Aside0 (kq ≤ k2) ∧ Aside0 (Below w.heap.size w w'))
         case atStart => exact ⟨(wrap64 ((wrap64 (Int.tdiv t102 86400)) - t106)), (0), (by first | rfl | (simp; done) | (simp [*]; done)), (by first | rfl | (simp; done) | (simp [*]; done)), H', ⟨Nat.le_refl _⟩, ⟨by repeat (first | (with_reducible first | exact HB.out | apply below_alloc | apply pw_below_drewN | apply below_drew1) | exact HB.out)⟩⟩
         case round =>
          clear H'
          try clear c1
          try clear p1
          try clear q1
          try clear hx1
          try clear c2
          try clear p2
          try clear c4
          try clear c4b0
          try clear c5
          try clear c5b0
          try clear p6
          try clear c8
          try clear c8b0
          try clear c10
          try clear c10b0
          try clear p10
          try clear q10
          try clear hx10
          try clear hx103_0
          try clear p1
          try clear p103
          try clear p2
          try clear p6
          try clear q1
          try clear q103
          obtain ⟨x7_3, x8_3, rfl, rfl, HA, HK3, HB⟩ := hrel
          cases gk with
          | zero => exact absurd HA.out (by simp [stamp_Date.l2])
          | succ k3 =>
           have H := HA.out
           clear HA
           simp only [stamp_Date.l2] at H
           replace H := Option.bind_eq_some_iff.mp H
           obtain ⟨t107, A120, H⟩ := H
           replace H : (if x7_3 ≥ t107 then ((stamp_length.f x6_2 x8_3).bind fun t108 => (stamp_Date.l2 k3 rs_ (rdOf ByteArray.empty wdT (ji3)) x6_2 (wrap64 (x7_3 - t108)) (wrap64 (x8_3 + 1)))) else ((stamp_two.f (wrap64 (Int.tdiv rs_ 3600))).bind fun t109 => (if t109.size + 1 ≤ 9223372036854775807 then ((stamp_two.f (Int.tmod (wrap64 (Int.tdiv rs_ 60)) 60)).bind fun t110 => (if (t109 ++ (⟨#[58]⟩ : ByteArray)).size + t110.size ≤ 9223372036854775807 then (if ((t109 ++ (⟨#[58]⟩ : ByteArray)) ++ t110).size + 1 ≤ 9223372036854775807 then ((stamp_two.f (Int.tmod rs_ 60)).bind fun t111 => (if (((t109 ++ (⟨#[58]⟩ : ByteArray)) ++ t110) ++ (⟨#[58]⟩ : ByteArray)).size + t111.size ≤ 9223372036854775807 then (if (rdOf ByteArray.empty wdT (ji3)).size + 1 ≤ 9223372036854775807 then ((stamp_two.f (wrap64 (x7_3 + 1))).bind fun t112 => (if 0 ≤ x8_3 then (if x8_3 < 12 then ((strconv_FormatInt.f x6_2 10).bind fun t114 => ((strings_Join.f (([(rdOf ByteArray.empty wdT (ji3)) ++ (⟨#[44]⟩ : ByteArray), t112, rdOf ByteArray.empty moT x8_3, t114, (((t109 ++ (⟨#[58]⟩ : ByteArray)) ++ t110) ++ (⟨#[58]⟩ : ByteArray)) ++ t111, (⟨#[43, 48, 48, 48, 48]⟩ : ByteArray)] : List ByteArray)) (⟨#[32]⟩ : ByteArray)).bind fun t118 => (some t118))) else (none)) else (none))) else (none)) else (none))) else (none)) else (none))) else (none)))) = some r := H
           have A12 := Aside0.mk A120
           clear A120
           by_cases c13 : x7_3 ≥ t107
           ·rw [if_pos c13] at H
            have c13b0 : decide (t107 ≤ x7_3) = true := decide_eq_true c13
            clear c13
            replace H := Option.bind_eq_some_iff.mp H
            obtain ⟨t108, A140, H⟩ := H
            replace H : (stamp_Date.l2 k3 rs_ (rdOf ByteArray.empty wdT (ji3)) x6_2 (wrap64 (x7_3 - t108)) (wrap64 (x8_3 + 1))) = some r := H
            have A14 := Aside0.mk A140
            clear A140
            have E_ : t107 = t108 := Option.some.inj (A12.out.symm.trans A14.out)
            subst E_
            have H' := Aside0.mk H
            clear H
            go_wp2_with (first | ((with_reducible refine gate_callee (f := 27) rfl ?_); refine goesL_ (some 45) rfl rfl Tryd.func27 (by kernel_rfl) rfl #[.int .i64 x6_2, .int .i64 x8_3] rfl ml ?_; (with_reducible refine (stamp_length.calls x6_2 x8_3 t107 _ ?side1 A12.out).mono ?_); (case side1 => exact Glob.below HG.out bl); rintro e w' ⟨rfl, ⟨nd, rfl⟩⟩; refine ⟨_, rfl, ?_⟩) | ((with_reducible refine gate_callee (f := 27) rfl ?_); refine goesL_ (some 50) rfl rfl Tryd.func27 (by kernel_rfl) rfl #[.int .i64 x6_2, .int .i64 x8_3] rfl ml ?_; (with_reducible refine (stamp_length.calls x6_2 x8_3 t107 _ ?side1 A14.out).mono ?_); (case side1 => exact Glob.below HG.out bl); rintro e w' ⟨rfl, ⟨nd, rfl⟩⟩; refine ⟨_, rfl, ?_⟩))
            go_roundg k3
            case measure => have := HK1.out; have := HK2.out; have := HK3.out; omega
            case rel => exact ⟨(wrap64 (x7_3 - t107)), (wrap64 (x8_3 + 1)), (by first | rfl | (simp; done) | (simp [*]; done)), (by first | rfl | (simp; done) | (simp [*]; done)), H', ⟨by have := HK1.out; have := HK2.out; have := HK3.out; omega⟩, ⟨by repeat (first | (with_reducible first | exact HB.out | apply below_alloc | apply pw_below_drewN | apply below_drew1) | exact HB.out)⟩⟩
           ·rw [if_neg c13] at H
            have c13b0 : decide (t107 ≤ x7_3) = false := decide_eq_false c13
            clear c13
            replace H := Option.bind_eq_some_iff.mp H
            obtain ⟨t109, A150, H⟩ := H
            replace H : (if t109.size + 1 ≤ 9223372036854775807 then ((stamp_two.f (Int.tmod (wrap64 (Int.tdiv rs_ 60)) 60)).bind fun t110 => (if (t109 ++ (⟨#[58]⟩ : ByteArray)).size + t110.size ≤ 9223372036854775807 then (if ((t109 ++ (⟨#[58]⟩ : ByteArray)) ++ t110).size + 1 ≤ 9223372036854775807 then ((stamp_two.f (Int.tmod rs_ 60)).bind fun t111 => (if (((t109 ++ (⟨#[58]⟩ : ByteArray)) ++ t110) ++ (⟨#[58]⟩ : ByteArray)).size + t111.size ≤ 9223372036854775807 then (if (rdOf ByteArray.empty wdT (ji3)).size + 1 ≤ 9223372036854775807 then ((stamp_two.f (wrap64 (x7_3 + 1))).bind fun t112 => (if 0 ≤ x8_3 then (if x8_3 < 12 then ((strconv_FormatInt.f x6_2 10).bind fun t114 => ((strings_Join.f (([(rdOf ByteArray.empty wdT (ji3)) ++ (⟨#[44]⟩ : ByteArray), t112, rdOf ByteArray.empty moT x8_3, t114, (((t109 ++ (⟨#[58]⟩ : ByteArray)) ++ t110) ++ (⟨#[58]⟩ : ByteArray)) ++ t111, (⟨#[43, 48, 48, 48, 48]⟩ : ByteArray)] : List ByteArray)) (⟨#[32]⟩ : ByteArray)).bind fun t118 => (some t118))) else (none)) else (none))) else (none)) else (none))) else (none)) else (none))) else (none)) = some r := H
            have A15 := Aside0.mk A150
            clear A150
            by_cases c16 : t109.size + 1 ≤ 9223372036854775807
            ·rw [if_pos c16] at H
             have c16b0 := eq_true c16
             have c16b1 : decide (t109.size + 1 ≤ 9223372036854775807) = true := decide_eq_true c16
             try have c16b2 : (9223372036854775807 < t109.size + 1) = False := eq_false (Nat.not_lt.2 c16)
             replace H := Option.bind_eq_some_iff.mp H
             obtain ⟨t110, A170, H⟩ := H
             replace H : (if (t109 ++ (⟨#[58]⟩ : ByteArray)).size + t110.size ≤ 9223372036854775807 then (if ((t109 ++ (⟨#[58]⟩ : ByteArray)) ++ t110).size + 1 ≤ 9223372036854775807 then ((stamp_two.f (Int.tmod rs_ 60)).bind fun t111 => (if (((t109 ++ (⟨#[58]⟩ : ByteArray)) ++ t110) ++ (⟨#[58]⟩ : ByteArray)).size + t111.size ≤ 9223372036854775807 then (if (rdOf ByteArray.empty wdT (ji3)).size + 1 ≤ 9223372036854775807 then ((stamp_two.f (wrap64 (x7_3 + 1))).bind fun t112 => (if 0 ≤ x8_3 then (if x8_3 < 12 then ((strconv_FormatInt.f x6_2 10).bind fun t114 => ((strings_Join.f (([(rdOf ByteArray.empty wdT (ji3)) ++ (⟨#[44]⟩ : ByteArray), t112, rdOf ByteArray.empty moT x8_3, t114, (((t109 ++ (⟨#[58]⟩ : ByteArray)) ++ t110) ++ (⟨#[58]⟩ : ByteArray)) ++ t111, (⟨#[43, 48, 48, 48, 48]⟩ : ByteArray)] : List ByteArray)) (⟨#[32]⟩ : ByteArray)).bind fun t118 => (some t118))) else (none)) else (none))) else (none)) else (none))) else (none)) else (none)) = some r := H
             have A17 := Aside0.mk A170
             clear A170
             by_cases c18 : (t109 ++ (⟨#[58]⟩ : ByteArray)).size + t110.size ≤ 9223372036854775807
             ·rw [if_pos c18] at H
              have c18b0 := eq_true c18
              have c18b1 : decide ((t109 ++ (⟨#[58]⟩ : ByteArray)).size + t110.size ≤ 9223372036854775807) = true := decide_eq_true c18
              try have c18b2 : (9223372036854775807 < (t109 ++ (⟨#[58]⟩ : ByteArray)).size + t110.size) = False := eq_false (Nat.not_lt.2 c18)
              try (have c18b2y := c18b2; rw [ByteArray.size_append] at c18b2y)
              try have c18b2z : (9223372036854775807 < t109.size + 1 + t110.size) = False := eq_false (fun h_ => by have g_ := c18; simp only [ByteArray.size_append, show (⟨#[58]⟩ : ByteArray).size = 1 from rfl] at g_; omega)
              by_cases c19 : ((t109 ++ (⟨#[58]⟩ : ByteArray)) ++ t110).size + 1 ≤ 9223372036854775807
              ·rw [if_pos c19] at H
               have c19b0 := eq_true c19
               have c19b1 : decide (((t109 ++ (⟨#[58]⟩ : ByteArray)) ++ t110).size + 1 ≤ 9223372036854775807) = true := decide_eq_true c19
               try have c19b2 : (9223372036854775807 < ((t109 ++ (⟨#[58]⟩ : ByteArray)) ++ t110).size + 1) = False := eq_false (Nat.not_lt.2 c19)
               try (have c19b2y := c19b2; rw [ByteArray.size_append] at c19b2y)
               try have c19b2z : (9223372036854775807 < t109.size + 1 + t110.size + 1) = False := eq_false (fun h_ => by have g_ := c19; simp only [ByteArray.size_append, show (⟨#[58]⟩ : ByteArray).size = 1 from rfl] at g_; omega)
               replace H := Option.bind_eq_some_iff.mp H
               obtain ⟨t111, A200, H⟩ := H
               replace H : (if (((t109 ++ (⟨#[58]⟩ : ByteArray)) ++ t110) ++ (⟨#[58]⟩ : ByteArray)).size + t111.size ≤ 9223372036854775807 then (if (rdOf ByteArray.empty wdT (ji3)).size + 1 ≤ 9223372036854775807 then ((stamp_two.f (wrap64 (x7_3 + 1))).bind fun t112 => (if 0 ≤ x8_3 then (if x8_3 < 12 then ((strconv_FormatInt.f x6_2 10).bind fun t114 => ((strings_Join.f (([(rdOf ByteArray.empty wdT (ji3)) ++ (⟨#[44]⟩ : ByteArray), t112, rdOf ByteArray.empty moT x8_3, t114, (((t109 ++ (⟨#[58]⟩ : ByteArray)) ++ t110) ++ (⟨#[58]⟩ : ByteArray)) ++ t111, (⟨#[43, 48, 48, 48, 48]⟩ : ByteArray)] : List ByteArray)) (⟨#[32]⟩ : ByteArray)).bind fun t118 => (some t118))) else (none)) else (none))) else (none)) else (none)) = some r := H
               have A20 := Aside0.mk A200
               clear A200
               by_cases c21 : (((t109 ++ (⟨#[58]⟩ : ByteArray)) ++ t110) ++ (⟨#[58]⟩ : ByteArray)).size + t111.size ≤ 9223372036854775807
               ·rw [if_pos c21] at H
                have c21b0 := eq_true c21
                have c21b1 : decide ((((t109 ++ (⟨#[58]⟩ : ByteArray)) ++ t110) ++ (⟨#[58]⟩ : ByteArray)).size + t111.size ≤ 9223372036854775807) = true := decide_eq_true c21
                try have c21b2 : (9223372036854775807 < (((t109 ++ (⟨#[58]⟩ : ByteArray)) ++ t110) ++ (⟨#[58]⟩ : ByteArray)).size + t111.size) = False := eq_false (Nat.not_lt.2 c21)
                try (have c21b2y := c21b2; rw [ByteArray.size_append] at c21b2y)
                try have c21b2z : (9223372036854775807 < t109.size + 1 + t110.size + 1 + t111.size) = False := eq_false (fun h_ => by have g_ := c21; simp only [ByteArray.size_append, show (⟨#[58]⟩ : ByteArray).size = 1 from rfl] at g_; omega)
                by_cases c22 : (rdOf ByteArray.empty wdT (ji3)).size + 1 ≤ 9223372036854775807
                ·rw [if_pos c22] at H
                 have c22b0 := eq_true c22
                 have c22b1 : decide ((rdOf ByteArray.empty wdT (ji3)).size + 1 ≤ 9223372036854775807) = true := decide_eq_true c22
                 try have c22b2 : (9223372036854775807 < (rdOf ByteArray.empty wdT (ji3)).size + 1) = False := eq_false (Nat.not_lt.2 c22)
                 replace H := Option.bind_eq_some_iff.mp H
                 obtain ⟨t112, A230, H⟩ := H
                 replace H : (if 0 ≤ x8_3 then (if x8_3 < 12 then ((strconv_FormatInt.f x6_2 10).bind fun t114 => ((strings_Join.f (([(rdOf ByteArray.empty wdT (ji3)) ++ (⟨#[44]⟩ : ByteArray), t112, rdOf ByteArray.empty moT x8_3, t114, (((t109 ++ (⟨#[58]⟩ : ByteArray)) ++ t110) ++ (⟨#[58]⟩ : ByteArray)) ++ t111, (⟨#[43, 48, 48, 48, 48]⟩ : ByteArray)] : List ByteArray)) (⟨#[32]⟩ : ByteArray)).bind fun t118 => (some t118))) else (none)) else (none)) = some r := H
                 have A23 := Aside0.mk A230
                 clear A230
                 by_cases c24 : 0 ≤ x8_3
                 ·rw [if_pos c24] at H
                  have c24b0 : decide (0 ≤ x8_3) = true := decide_eq_true c24
                  clear c24
                  by_cases c25 : x8_3 < 12
                  ·rw [if_pos c25] at H
                   have c25b0 : decide (x8_3 < 12) = true := decide_eq_true c25
                   clear c25
                   replace H := Option.bind_eq_some_iff.mp H
                   obtain ⟨t114, A260, H⟩ := H
                   replace H : ((strings_Join.f (([(rdOf ByteArray.empty wdT (ji3)) ++ (⟨#[44]⟩ : ByteArray), t112, rdOf ByteArray.empty moT x8_3, t114, (((t109 ++ (⟨#[58]⟩ : ByteArray)) ++ t110) ++ (⟨#[58]⟩ : ByteArray)) ++ t111, (⟨#[43, 48, 48, 48, 48]⟩ : ByteArray)] : List ByteArray)) (⟨#[32]⟩ : ByteArray)).bind fun t118 => (some t118)) = some r := H
                   have A26 := Aside0.mk A260
                   clear A260
                   obtain ⟨y115, hy115⟩ : ∃ y_ : List ByteArray, y_ = (([(rdOf ByteArray.empty wdT (ji3)) ++ (⟨#[44]⟩ : ByteArray), t112, rdOf ByteArray.empty moT x8_3, t114, (((t109 ++ (⟨#[58]⟩ : ByteArray)) ++ t110) ++ (⟨#[58]⟩ : ByteArray)) ++ t111, (⟨#[43, 48, 48, 48, 48]⟩ : ByteArray)] : List ByteArray)) := ⟨_, rfl⟩
                   replace H : ((strings_Join.f y115 (⟨#[32]⟩ : ByteArray)).bind fun t118 => (some t118)) = some r := by first | (rw [hy115]; with_reducible exact H) | (have H2_ := (Option.bind_some _ _).symm.trans H; rw [hy115]; with_reducible exact H2_) | (have H2_ := (Option.bind_some _ _).symm.trans H; with_reducible exact H2_) | with_reducible exact H | (rw [hy115]; exact H) | exact H
                   have Ny115 := Aside0.mk hy115
                   clear hy115
                   replace H := Option.bind_eq_some_iff.mp H
                   obtain ⟨t118, A270, H⟩ := H
                   replace H : (some t118) = some r := H
                   have A27 := Aside0.mk A270
                   clear A270
                   obtain rfl := Option.some.inj H
                   try go_wp2_with (first | ((with_reducible refine gate_callee (f := 27) rfl ?_); refine goesL_ (some 45) rfl rfl Tryd.func27 (by kernel_rfl) rfl #[.int .i64 x6_2, .int .i64 x8_3] rfl ml ?_; (with_reducible refine (stamp_length.calls x6_2 x8_3 t107 _ ?side1 A12.out).mono ?_); (case side1 => exact Glob.below HG.out bl); rintro e w' ⟨rfl, ⟨nd, rfl⟩⟩; refine ⟨_, rfl, ?_⟩) | ((with_reducible refine gate_callee (f := 28) rfl ?_); refine goesL_ (some 56) rfl rfl Tryd.func28 (by kernel_rfl) rfl #[.int .i64 (wrap64 (Int.tdiv rs_ 3600))] rfl ml ?_; (with_reducible refine (stamp_two.calls (wrap64 (Int.tdiv rs_ 3600)) t109 _ A15.out).mono ?_); rintro e w28 ⟨rfl, hb⟩; refine ⟨_, rfl, ?_⟩; have n0_ := Aside0.mk (below_step bl hb); clear HB; have HB := n0_; clear n0_; (try clear hb); (try clear hb2); (try clear hk); (try clear hi)) | ((with_reducible refine gate_callee (f := 28) rfl ?_); refine goesL_ (some 61) rfl rfl Tryd.func28 (by kernel_rfl) rfl #[.int .i64 (Int.tmod (wrap64 (Int.tdiv rs_ 60)) 60)] rfl ml ?_; (with_reducible refine (stamp_two.calls (Int.tmod (wrap64 (Int.tdiv rs_ 60)) 60) t110 _ A17.out).mono ?_); rintro e w29 ⟨rfl, hb⟩; refine ⟨_, rfl, ?_⟩; have n0_ := Aside0.mk (below_step bl hb); clear HB; have HB := n0_; clear n0_; (try clear hb); (try clear hb2); (try clear hk); (try clear hi)) | ((with_reducible refine gate_callee (f := 28) rfl ?_); refine goesL_ (some 66) rfl rfl Tryd.func28 (by kernel_rfl) rfl #[.int .i64 (Int.tmod rs_ 60)] rfl ml ?_; (with_reducible refine (stamp_two.calls (Int.tmod rs_ 60) t111 _ A20.out).mono ?_); rintro e w30 ⟨rfl, hb⟩; refine ⟨_, rfl, ?_⟩; have n0_ := Aside0.mk (below_step bl hb); clear HB; have HB := n0_; clear n0_; (try clear hb); (try clear hb2); (try clear hk); (try clear hi)))
                   have n0_ := Aside0.mk (below_drew1 HB.out)
                   clear HB
                   have HB := n0_
                   clear n0_
                   have p113 : 0 ≤ (x8_3 : Int) := od
                   have q113 : x8_3 < (moT.length : Int) := od
                   have ql113 : ((x8_3 : Int) < (12 : Int)) = True := eq_true (od)
                   obtain ⟨ad113, e113, hx113_0⟩ := Kd.at_string HRG1.out x8_3 p113 q113
                   obtain rfl : (⟨1, 0, none⟩ : Addr) = ad113 := (by injection e113)
                   have hw113_0 := hx113_0
                   (first | simp only [add_plain] at hw113_0 | simp only [add_at] at hw113_0 | simp only [Addr.add, Nat.zero_add] at hw113_0 | skip)
                   (first | simp only [add_plain] at hx113_0 | simp only [add_at] at hx113_0 | simp only [Addr.add, Nat.zero_add] at hx113_0 | skip)
                   replace hx113_0 := (HB.out.cell (World.block_lt_of_cell? w _ hx113_0)).trans hx113_0
                   replace p113 := eq_true p113
                   replace q113 := eq_true q113
                   refine start_ (n := 14) (S := fun w' => w'.cell? ⟨1, (x8_3).toNat, none⟩ = some (.string (rdOf ByteArray.empty moT x8_3))) (ds := []) #[false, false, false, false, false, false, false, false, false, false, false, false, false, false] (by kernel_rfl) rfl rfl (((HB.out.cell (World.block_lt_of_cell? w _ hw113_0)).trans hw113_0)) (fun hHeld => ?_); refine with_tabW stamp_Date.tab14 stamp_Date.bits14 (fun HT_ HW_ => ?_)
                   generalize w30.drew = w31 at HB hx113_0 hHeld ⊢
                   refine pure_ (i := 0) (N := some 68) (v := ?_) (a' := ?_) #[true, false, false, false, false, false, false, false, false, false, false, false, false, false] rfl rfl (any_of HT_.out (by kernel_rfl)) (fun _ _ _ h => h) (Or.inl ⟨by rfl, ?_⟩) ?_ ?_
                   rotate_left
                   ·intro w'
                    go_simp
                    with_reducible rfl
                   rotate_left
                   ·simp only [Act.put, List.setIfInBounds_toArray, List.set_cons_zero, List.set_cons_succ, i64_w, i32_w]
                    rfl
                   refine pure_ (i := 1) (N := some 69) (v := ?_) (a' := ?_) #[true, true, false, false, false, false, false, false, false, false, false, false, false, false] rfl rfl (any_of HT_.out (by kernel_rfl)) (fun _ _ _ h => h) (Or.inl ⟨by rfl, ?_⟩) ?_ ?_
                   rotate_left
                   ·intro w'
                    go_simp
                    with_reducible rfl
                   rotate_left
                   ·simp only [Act.put, List.setIfInBounds_toArray, List.set_cons_zero, List.set_cons_succ, i64_w, i32_w]
                    rfl
                   refine pure_ (i := 2) (N := some 70) (v := ?_) (a' := ?_) #[true, true, true, false, false, false, false, false, false, false, false, false, false, false] rfl rfl (any_of HT_.out (by kernel_rfl)) (fun _ _ _ h => h) (Or.inl ⟨by rfl, ?_⟩) ?_ ?_
                   rotate_left
                   ·intro w'
                    go_simp
                    with_reducible rfl
                   rotate_left
                   ·simp only [Act.put, List.setIfInBounds_toArray, List.set_cons_zero, List.set_cons_succ, i64_w, i32_w]
                    rfl
                   refine pure_ (i := 3) (N := some 71) (v := ?_) (a' := ?_) #[true, true, true, true, false, false, false, false, false, false, false, false, false, false] rfl rfl (any_of HT_.out (by kernel_rfl)) (fun _ _ _ h => h) (Or.inl ⟨by rfl, ?_⟩) ?_ ?_
                   rotate_left
                   ·intro w'
                    go_simp
                    with_reducible rfl
                   rotate_left
                   ·simp only [Act.put, List.setIfInBounds_toArray, List.set_cons_zero, List.set_cons_succ, i64_w, i32_w]
                    rfl
                   refine pure_ (i := 5) (N := some 73) (v := ?_) (a' := ?_) #[true, true, true, true, false, true, false, false, false, false, false, false, false, false] rfl rfl (any_of HT_.out (by kernel_rfl)) (fun _ _ _ h => h) (Or.inl ⟨by rfl, ?_⟩) ?_ ?_
                   rotate_left
                   ·intro w'
                    go_simp
                    with_reducible rfl
                   rotate_left
                   ·simp only [Act.put, List.setIfInBounds_toArray, List.set_cons_zero, List.set_cons_succ, i64_w, i32_w]
                    rfl
                   refine pure_ (i := 6) (N := some 74) (v := ?_) (a' := ?_) #[true, true, true, true, false, true, true, false, false, false, false, false, false, false] rfl rfl (any_of HT_.out (by kernel_rfl)) (fun _ _ _ h => h) (Or.inl ⟨by rfl, ?_⟩) ?_ ?_
                   rotate_left
                   ·intro w'
                    go_simp
                    with_reducible rfl
                   rotate_left
                   ·simp only [Act.put, List.setIfInBounds_toArray, List.set_cons_zero, List.set_cons_succ, i64_w, i32_w]
                    rfl
                   refine pure_ (i := 8) (N := some 76) (v := ?_) (a' := ?_) #[true, true, true, true, false, true, true, false, true, false, false, false, false, false] rfl rfl (any_of HT_.out (by kernel_rfl)) (fun _ _ _ h => h) (Or.inl ⟨by rfl, ?_⟩) ?_ ?_
                   rotate_left
                   ·intro w'
                    go_simp
                    with_reducible rfl
                   rotate_left
                   ·simp only [Act.put, List.setIfInBounds_toArray, List.set_cons_zero, List.set_cons_succ, i64_w, i32_w]
                    rfl
                   refine pure_ (i := 10) (N := some 78) (v := ?_) (a' := ?_) #[true, true, true, true, false, true, true, false, true, false, true, false, false, false] rfl rfl (any_of HT_.out (by kernel_rfl)) (fun _ _ _ h => h) (Or.inl ⟨by rfl, ?_⟩) ?_ ?_
                   rotate_left
                   ·intro w'
                    go_simp
                    with_reducible rfl
                   rotate_left
                   ·simp only [Act.put, List.setIfInBounds_toArray, List.set_cons_zero, List.set_cons_succ, i64_w, i32_w]
                    rfl
                   refine take_ (i := 7) (N := some 75) (v := ?_) (a' := ?_) #[true, true, true, true, false, true, true, true, true, false, true, false, false, false] rfl rfl (take_ofW HT_.out HW_.out (by kernel_rfl)) (fun _ _ _ h => h) (Or.inl ⟨by rfl, ?_⟩) hHeld ?_ ?_
                   rotate_left
                   ·intro w' s0
                    go_simp
                    with_reducible rfl
                   rotate_left
                   ·simp only [Act.put, List.setIfInBounds_toArray, List.set_cons_zero, List.set_cons_succ, i64_w, i32_w]
                    rfl
                   refine one_ (i := 4) (N := some 72) #[true, true, true, true, true, true, true, true, true, false, true, false, false, false] rfl rfl (one_of HT_.out (by kernel_rfl)) (by decide) (fun K hK => ?_)
                   refine goes_ Tryd.func28 (by kernel_rfl) rfl #[.int .i64 (wrap64 (x7_3 + 1))] (by rfl) rfl rfl ml ?_
                   with_reducible refine (stamp_two.calls (wrap64 (x7_3 + 1)) t112 _ A23.out).mono ?_
                   rintro e w32 ⟨rfl, hb⟩
                   refine ⟨_, rfl, ?_⟩
                   have n0_ := Aside0.mk (below_step bl hb)
                   clear HB
                   have HB := n0_
                   clear n0_
                   (try clear hb)
                   (try clear hb2)
                   (try clear hk)
                   (try clear hi)
                   refine hK.out _ _ (((HB.out.cell (World.block_lt_of_cell? w _ hw113_0)).trans hw113_0)) (fun hHeld => ?_)
                   clear hK K
                   refine norm_ (a' := ?_) ?_ ?_
                   rotate_left
                   ·show Act.put _ (some 72) _ = _
                    simp only [Act.put, List.setIfInBounds_toArray, List.set_cons_zero, List.set_cons_succ, i64_w, i32_w]
                    rfl
                   refine one_ (i := 9) (N := some 77) #[true, true, true, true, true, true, true, true, true, true, true, false, false, false] rfl rfl (one_of HT_.out (by kernel_rfl)) (by decide) (fun K hK => ?_)
                   refine goes_ Tryd.func30 (by kernel_rfl) rfl #[.int .i64 x6_2, .int .i64 10] (by rfl) rfl rfl ml ?_
                   with_reducible refine (strconv_FormatInt.calls x6_2 10 t114 _ ?side1 A26.out).mono ?_
                   (case side1 => exact Glob.below HG.out bl)
                   rintro e w33 ⟨rfl, hb⟩
                   refine ⟨_, rfl, ?_⟩
                   have n0_ := Aside0.mk (below_step bl hb)
                   clear HB
                   have HB := n0_
                   clear n0_
                   (try clear hb)
                   (try clear hb2)
                   (try clear hk)
                   (try clear hi)
                   refine hK.out _ _ (((HB.out.cell (World.block_lt_of_cell? w _ hw113_0)).trans hw113_0)) (fun hHeld => ?_)
                   clear hK K
                   refine norm_ (a' := ?_) ?_ ?_
                   rotate_left
                   ·show Act.put _ (some 77) _ = _
                    simp only [Act.put, List.setIfInBounds_toArray, List.set_cons_zero, List.set_cons_succ, i64_w, i32_w]
                    rfl
                   refine one_ (i := 11) (N := some 79) #[true, true, true, true, true, true, true, true, true, true, true, true, false, false] rfl rfl (one_of HT_.out (by kernel_rfl)) (by decide) (fun K hK => ?_)
                   refine Kd.R_lit_step Kd.string _ 9 ?hg (N := 79) ?hd (xs := ([(rdOf ByteArray.empty wdT (ji3)) ++ (⟨#[44]⟩ : ByteArray), t112, rdOf ByteArray.empty moT x8_3, t114, (((t109 ++ (⟨#[58]⟩ : ByteArray)) ++ t110) ++ (⟨#[58]⟩ : ByteArray)) ++ t111, (⟨#[43, 48, 48, 48, 48]⟩ : ByteArray)] : List ByteArray)) (inner := [.string ((rdOf ByteArray.empty wdT (ji3)) ++ (⟨#[44]⟩ : ByteArray)), .string t112, .string (rdOf ByteArray.empty moT x8_3), .string t114, .string ((((t109 ++ (⟨#[58]⟩ : ByteArray)) ++ t110) ++ (⟨#[58]⟩ : ByteArray)) ++ t111), .string (⟨#[43, 48, 48, 48, 48]⟩ : ByteArray)]) (ok := fun _ => True) (okp := fun _ => True) ?hr ?hp (fun _ hk => hk) trivial (Below.refl _ _) (Nat.le_refl _) (by simp) ?_; (case hd => rfl); (case hg => rfl); (case hr => first | (go_simp; done) | (go_simp; rfl)); (case hp => exact (Reps.one (show Kd.M Kd.string _ _ _ ((rdOf ByteArray.empty wdT (ji3)) ++ (⟨#[44]⟩ : ByteArray)) [.string ((rdOf ByteArray.empty wdT (ji3)) ++ (⟨#[44]⟩ : ByteArray))] from rfl) (Reps.one (show Kd.M Kd.string _ _ _ t112 [.string t112] from rfl) (Reps.one (show Kd.M Kd.string _ _ _ (rdOf ByteArray.empty moT x8_3) [.string (rdOf ByteArray.empty moT x8_3)] from rfl) (Reps.one (show Kd.M Kd.string _ _ _ t114 [.string t114] from rfl) (Reps.one (show Kd.M Kd.string _ _ _ ((((t109 ++ (⟨#[58]⟩ : ByteArray)) ++ t110) ++ (⟨#[58]⟩ : ByteArray)) ++ t111) [.string ((((t109 ++ (⟨#[58]⟩ : ByteArray)) ++ t110) ++ (⟨#[58]⟩ : ByteArray)) ++ t111)] from rfl) (Reps.one (show Kd.M Kd.string _ _ _ (⟨#[43, 48, 48, 48, 48]⟩ : ByteArray) [.string (⟨#[43, 48, 48, 48, 48]⟩ : ByteArray)] from rfl) (Reps.none _ _))))))))
                   intro v116 w34 ho35 hb hg_ hnew_
                   clear hg_ hnew_
                   (first | rw [← Ny115.out] at ho35 | (simp only [Int.reduceToNat] at ho35; rw [← Ny115.out] at ho35))
                   have n0_ := Aside0.mk (Kd.R_lower ho35 (below_size bl))
                   have n1_ := Aside0.mk (below_step bl hb)
                   clear HB
                   have HO117 := n0_
                   have HB := n1_
                   clear n0_ n1_
                   clear hb ho35
                   obtain ⟨Ao36, co36, eo36⟩ := Kd.R_slice HO117.out
                   (first | subst eo36 | (injection eo36 with f1_ f2_ f3_; have f4_ := f1_.symm; have f5_ := f3_.symm; clear f1_ f2_ f3_; subst f4_; subst f5_))
                   refine hK.out _ _ (((HB.out.cell (World.block_lt_of_cell? w _ hw113_0)).trans hw113_0)) (fun hHeld => ?_)
                   clear hK K
                   refine norm_ (a' := ?_) ?_ ?_
                   rotate_left
                   ·show Act.put _ (some 79) _ = _
                    simp only [Act.put, List.setIfInBounds_toArray, List.set_cons_zero, List.set_cons_succ, i64_w, i32_w]
                    rfl
                   refine one_ (i := 12) (N := some 80) #[true, true, true, true, true, true, true, true, true, true, true, true, true, false] rfl rfl (one_of HT_.out (by kernel_rfl)) (by decide) (fun K hK => ?_)
                   refine goes_ Tryd.func29 (by kernel_rfl) rfl #[.slice Ao36 y115.length co36, .string (⟨#[32]⟩ : ByteArray)] (by rfl) rfl rfl ml ?_
                   with_reducible refine (strings_Join.calls _ _ y115 (⟨#[32]⟩ : ByteArray) t118 _ ?side1 ?side2 A27.out).mono ?_
                   (case side1 => repeat (first | exact (Kd.R_reads' HO117.out).2.2 | (with_reducible refine Kd.C_alloc ?_ _) | (with_reducible refine Kd.C_drewN ?_ _) | (with_reducible refine Kd.C_drew ?_)))
                   (case side2 => exact (Kd.R_reads' HO117.out).2.1)
                   rintro e w37 ⟨rfl, hb⟩
                   refine ⟨_, rfl, ?_⟩
                   have n0_ := Aside0.mk (Kd.R_below (kr HO117.out) hb)
                   have n1_ := Aside0.mk (below_step bl hb)
                   clear HO117
                   clear HB
                   have HO117 := n0_
                   have HB := n1_
                   clear n0_ n1_
                   (try clear hb)
                   (try clear hb2)
                   (try clear hk)
                   (try clear hi)
                   refine hK.out _ _ (((HB.out.cell (World.block_lt_of_cell? w _ hw113_0)).trans hw113_0)) (fun hHeld => ?_)
                   clear hK K
                   refine norm_ (a' := ?_) ?_ ?_
                   rotate_left
                   ·show Act.put _ (some 80) _ = _
                    simp only [Act.put, List.setIfInBounds_toArray, List.set_cons_zero, List.set_cons_succ, i64_w, i32_w]
                    rfl
                   refine pure_ (i := 13) (N := some 2) (v := ?_) (a' := ?_) #[true, true, true, true, true, true, true, true, true, true, true, true, true, true] rfl rfl (any_of HT_.out (by kernel_rfl)) (fun _ _ _ h => h) (Or.inl ⟨by rfl, ?_⟩) ?_ ?_
                   rotate_left
                   ·intro w'
                    go_simp
                    with_reducible rfl
                   rotate_left
                   ·simp only [Act.put, List.setIfInBounds_toArray, List.set_cons_zero, List.set_cons_succ, i64_w, i32_w]
                    rfl
                   refine done_ (done_of HT_.out (by kernel_rfl)) ?_
                   try go_wp2
                   go_ret
                   exact ⟨by first | rfl | (simp [bneNil]; done) | (simp [errW_none, errW_some] <;> rfl) | (simp only [← hji3]; first | rfl | (simp [errW_none, errW_some] <;> rfl)) | (simp [*, errW_none, errW_some] <;> rfl), by repeat (first | (with_reducible first | exact HB.out | apply below_alloc | apply pw_below_drewN | apply below_drew1) | exact HB.out)⟩
                  ·rw [if_neg c25] at H
                   exact absurd H (by simp)
                 ·rw [if_neg c24] at H
                  exact absurd H (by simp)
                ·rw [if_neg c22] at H
                 exact absurd H (by simp)
               ·rw [if_neg c21] at H
                exact absurd H (by simp)
              ·rw [if_neg c19] at H
               exact absurd H (by simp)
             ·rw [if_neg c18] at H
              exact absurd H (by simp)
            ·rw [if_neg c16] at H
             exact absurd H (by simp)
  ·rw [if_neg c5] at H
   exact absurd H (by simp)
 ·rw [if_neg c4] at H
  exact absurd H (by simp)

/-! ### strings_IndexByte: function 36 (by hand) -/
def strings_IndexByte.f (a0 : ByteArray) (a1 : Int) : Option Int := some (Lib.indexByte a0.data.toList a1.toNat.toUInt8)
theorem strings_IndexByte.calls (a0 : ByteArray) (a1 : Int) (r : Int) (w : World) (h : strings_IndexByte.f a0 a1 = some r) :
    Calls Tryd.prog 36 #[.string a0, .int .u8 a1] w fun e w' => e = .returned (.int .i64 r) ∧ Drawn0 w w' := by
  obtain rfl := Option.some.inj h
  refine (Tryd.strings_IndexByte a0 a1 w).mono ?_
  rintro e w' ⟨rfl, rfl⟩
  exact ⟨rfl, Drawn0.refl _⟩


end Go.Proofs.YtoigafnaoaafeaaDoor.Q
end
section
namespace Go.Proofs.YtoigafnaoaafeaaDoor.Q
open Go.RowKit Go.Proofs.YtoigafnaoaafeaaDoorW.PrintWords Go.Proofs.YtoigafnaoaafeaaDoorW.PrintLast Go.Proofs.YtoigafnaoaafeaaDoorW.PrintMore
attribute [local go_sem] max2_int min2_int max_two min_two max_three min_three max_four min_four   -- for this text's walks alone
set_option linter.unusedVariables false
set_option linter.unusedSimpArgs false

/-! ### stamp_Parse: function 18 -/
mutual
def stamp_Parse.l0 : Nat → ByteArray → Int → Int → Int → Option (Int × Int)
 | 0, _, _, _, _ => none
 | k + 1, x0, x4, x12, x13 => if x13 < x12 then (if 0 ≤ x13 then (if x13 < (x0.size : Int) then (if (bt x0 x13) ≥ 97 then (stamp_Parse.j1 k x0 x4 (bt x0 x13) x12 x13 (decide ((bt x0 x13) ≤ 122))) else (stamp_Parse.j1 k x0 x4 (bt x0 x13) x12 x13 false)) else (none)) else (none)) else (some (x4, 0))
def stamp_Parse.j1 : Nat → ByteArray → Int → Int → Int → Int → Bool → Option (Int × Int)
 | 0, _, _, _, _, _, _ => none
 | k + 1, x0, x4, x6, x12, x13, x24 => if x24 = true then ((strings_IndexByte.f (⟨#[65, 66, 67, 68, 69, 70, 71, 72, 73, 74, 75, 76, 77, 78, 79, 80, 81, 82, 83, 84, 85, 86, 87, 88, 89, 90, 50, 51, 52, 53, 54, 55]⟩ : ByteArray) ((x6 - 32) % 256)).bind fun t119 => (if t119 < 0 then (some (0, 5)) else (stamp_Parse.l0 k x0 (Go.bits .or .i64 (wrap64 (x4 * 32)) t119) x12 (wrap64 (x13 + 1))))) else ((strings_IndexByte.f (⟨#[65, 66, 67, 68, 69, 70, 71, 72, 73, 74, 75, 76, 77, 78, 79, 80, 81, 82, 83, 84, 85, 86, 87, 88, 89, 90, 50, 51, 52, 53, 54, 55]⟩ : ByteArray) x6).bind fun t120 => (if t120 < 0 then (some (0, 5)) else (stamp_Parse.l0 k x0 (Go.bits .or .i64 (wrap64 (x4 * 32)) t120) x12 (wrap64 (x13 + 1)))))
end
def stamp_Parse.f (k : Nat) (a0 : ByteArray) : Option (Int × Int) := if (a0.size : Int) = 2 then (stamp_Parse.l0 k a0 0 (a0.size : Int) 0) else (some (0, 5))
theorem stamp_Parse.mono_l : ∀ k, (∀ y0 y1 y2 y3, LeO (stamp_Parse.l0 k y0 y1 y2 y3) (stamp_Parse.l0 (k + 1) y0 y1 y2 y3)) ∧ (∀ y0 y1 y2 y3 y4 y5, LeO (stamp_Parse.j1 k y0 y1 y2 y3 y4 y5) (stamp_Parse.j1 (k + 1) y0 y1 y2 y3 y4 y5))
 | 0 => ⟨fun _ _ _ _ r h => by simp [stamp_Parse.l0] at h, fun _ _ _ _ _ _ r h => by simp [stamp_Parse.j1] at h⟩
 | k + 1 => by
  obtain ⟨ih0, ih1⟩ := stamp_Parse.mono_l k
  refine ⟨?_, ?_⟩
  ·intro y0 y1 y2 y3
   unfold stamp_Parse.l0
   repeat' first
   | (with_reducible exact ih0 _ _ _ _)
   | (with_reducible exact ih1 _ _ _ _ _ _)
   | (with_reducible exact LeO.refl _)
   | (with_reducible exact LeO.none _)
   | (with_reducible refine LeO.ite ?_ ?_)
   | (with_reducible refine LeO.bind ?_ (fun _ => ?_))
   | exact ih0 _ _ _ _
   | exact ih1 _ _ _ _ _ _
   | exact LeO.none _
   | refine LeO.ite ?_ ?_
   | refine LeO.bind ?_ (fun _ => ?_)
  ·intro y0 y1 y2 y3 y4 y5
   unfold stamp_Parse.j1
   repeat' first
   | (with_reducible exact ih0 _ _ _ _)
   | (with_reducible exact ih1 _ _ _ _ _ _)
   | (with_reducible exact LeO.refl _)
   | (with_reducible exact LeO.none _)
   | (with_reducible refine LeO.ite ?_ ?_)
   | (with_reducible refine LeO.bind ?_ (fun _ => ?_))
   | exact ih0 _ _ _ _
   | exact ih1 _ _ _ _ _ _
   | exact LeO.none _
   | refine LeO.ite ?_ ?_
   | refine LeO.bind ?_ (fun _ => ?_)
theorem stamp_Parse.mono : ∀ a0 k, LeO (stamp_Parse.f k a0) (stamp_Parse.f (k + 1) a0) := by
 intro a0 k
 obtain ⟨ih0, ih1⟩ := stamp_Parse.mono_l k
 unfold stamp_Parse.f
 repeat' first
   | (with_reducible exact ih0 _ _ _ _)
   | (with_reducible exact ih1 _ _ _ _ _ _)
   | (with_reducible exact LeO.refl _)
   | (with_reducible exact LeO.none _)
   | (with_reducible refine LeO.ite ?_ ?_)
   | (with_reducible refine LeO.bind ?_ (fun _ => ?_))
   | exact ih0 _ _ _ _
   | exact ih1 _ _ _ _ _ _
   | exact LeO.none _
   | refine LeO.ite ?_ ?_
   | refine LeO.bind ?_ (fun _ => ?_)
set_option maxHeartbeats 8000000 in
set_option maxRecDepth 100000 in
theorem stamp_Parse.calls (k : Nat) (a0 : ByteArray) (r1 : Int) (r2 : Int) (w : World) (h : stamp_Parse.f k a0 = some (r1, r2)) :
  Calls Tryd.prog 18 #[.string a0] w fun e w' => e = .returned (.tuple #[.int .i64 r1, .int .i64 r2]) ∧ Drawn0 w w' := by
 have H : (if (a0.size : Int) = 2 then (stamp_Parse.l0 k a0 0 (a0.size : Int) 0) else (some (0, 5))) = some (r1, r2) := h
 clear h
 by_cases c2 : (a0.size : Int) = 2
 ·rw [if_pos c2] at H
  have c2b0 : ((a0.size : Int) == 2) = true := beq_iff_eq.mpr c2
  have c2b1 : ((a0.size : Int) != 2) = false := bne_eq_false_iff_eq.mpr c2
  clear c2
  have H' := Aside0.mk H
  clear H
  go_enter Tryd.func18, Tryd.ntmps18
  go_wp2
  go_loopg [4, 13] k (fun kq v4 v13 w' => ∃ (x4_1 : Int) (x13_1 : Int), v4 = .int .i64 x4_1 ∧ v13 = .int .i64 x13_1 ∧ Aside0 (stamp_Parse.l0 kq a0 x4_1 (a0.size : Int) x13_1 = some (r1, r2)) ∧ Aside0 (kq ≤ k) ∧ Drawn0 w w')
  case atStart => exact ⟨(0), (0), (by first | rfl | (simp; done) | (simp [*]; done)), (by first | rfl | (simp; done) | (simp [*]; done)), H', ⟨Nat.le_refl _⟩, by repeat (first | exact Drawn0.refl _ | apply Drawn0.step)⟩
  case round =>
   clear H'
   try clear c1
   try clear c2
   try clear c2b0
   try clear c2b1
   try clear p2
   obtain ⟨x4_1, x13_1, rfl, rfl, HA, HK1, ⟨m1, rfl⟩⟩ := hrel
   cases gk with
   | zero => exact absurd HA.out (by simp [stamp_Parse.l0])
   | succ k1 =>
    have H := HA.out
    clear HA
    simp only [stamp_Parse.l0] at H
    by_cases c3 : x13_1 < (a0.size : Int)
    ·rw [if_pos c3] at H
     have c3b0 : decide (x13_1 < (a0.size : Int)) = true := decide_eq_true c3
     clear c3
     by_cases c4 : 0 ≤ x13_1
     ·rw [if_pos c4] at H
      have c4b0 : decide (0 ≤ x13_1) = true := decide_eq_true c4
      clear c4
      by_cases c5 : x13_1 < (a0.size : Int)
      ·rw [if_pos c5] at H
       have c5b0 : decide (x13_1 < (a0.size : Int)) = true := decide_eq_true c5
       clear c5
       have HC7 := Aside0.mk H
       clear H
       have p6 : 0 ≤ (x13_1 : Int) := od
       have q6 : x13_1 < (a0.size : Int) := od
       have hx6 := bt_at a0 x13_1
       replace p6 := eq_true p6
       replace q6 := eq_true q6
       go_upto_region 8 with (fail)
       go_cut [24] (fun v24 wc => ∃ (kq : Nat) (x24_6 : Bool), v24 = .bool x24_6 ∧ Aside0 (stamp_Parse.j1 kq a0 x4_1 (bt a0 x13_1) (a0.size : Int) x13_1 x24_6 = some (r1, r2)) ∧ Aside0 (kq ≤ k1) ∧ Drawn0 w wc)
       case first =>
        have H := HC7.out
        clear HC7
        by_cases c8 : (bt a0 x13_1) ≥ 97
        ·rw [if_pos c8] at H
         have c8b0 : decide (97 ≤ (bt a0 x13_1)) = true := decide_eq_true c8
         clear c8
         (first | rw [c8b0] | (simp only [i64_w, i32_w]; rw [c8b0]) | skip)
         have H' := Aside0.mk H
         clear H
         go_wp2
         go_meet
         case rel => exact ⟨_, (decide ((bt a0 x13_1) ≤ 122)), (by first | rfl | (simp; done) | (simp [*]; done)), H', ⟨by have := HK1.out; first | omega | exact Nat.le_refl _⟩, by repeat (first | exact Drawn0.refl _ | apply Drawn0.step)⟩
        ·rw [if_neg c8] at H
         have c8b0 : decide (97 ≤ (bt a0 x13_1)) = false := decide_eq_false c8
         clear c8
         (first | rw [c8b0] | (simp only [i64_w, i32_w]; rw [c8b0]) | skip)
         have H' := Aside0.mk H
         clear H
         go_wp2
         go_meet
         case rel => exact ⟨_, (false), (by first | rfl | (simp; done) | (simp [*]; done)), H', ⟨by have := HK1.out; first | omega | exact Nat.le_refl _⟩, by repeat (first | exact Drawn0.refl _ | apply Drawn0.step)⟩
       case rest =>
        clear HC7
        try clear c1
        try clear c2
        try clear c2b0
        try clear c2b1
        try clear p2
        try clear c3
        try clear c3b0
        try clear c4
        try clear c4b0
        try clear c5
        try clear c5b0
        try clear p6
        try clear q6
        try clear hx6
        try clear c8
        try clear c8b0
        try clear p2
        try clear p6
        try clear q6
        obtain ⟨kq, x24_6, rfl, HA, HJ6, ⟨mc6, rfl⟩⟩ := hcut
        cases kq with
        | zero => exact absurd HA.out (by simp [stamp_Parse.j1])
        | succ kj6 =>
         have H := HA.out
         clear HA
         simp only [stamp_Parse.j1] at H
         by_cases c9 : x24_6 = true
         ·subst c9
          have H1 : ((strings_IndexByte.f (⟨#[65, 66, 67, 68, 69, 70, 71, 72, 73, 74, 75, 76, 77, 78, 79, 80, 81, 82, 83, 84, 85, 86, 87, 88, 89, 90, 50, 51, 52, 53, 54, 55]⟩ : ByteArray) (((bt a0 x13_1) - 32) % 256)).bind fun t119 => (if t119 < 0 then (some (0, 5)) else (stamp_Parse.l0 kj6 a0 (Go.bits .or .i64 (wrap64 (x4_1 * 32)) t119) (a0.size : Int) (wrap64 (x13_1 + 1))))) = some (r1, r2) := by rw [if_pos rfl] at H; exact H
          clear H
          have H := H1
          clear H1
          replace H := Option.bind_eq_some_iff.mp H
          obtain ⟨t119, A100, H⟩ := H
          replace H : (if t119 < 0 then (some (0, 5)) else (stamp_Parse.l0 kj6 a0 (Go.bits .or .i64 (wrap64 (x4_1 * 32)) t119) (a0.size : Int) (wrap64 (x13_1 + 1)))) = some (r1, r2) := H
          have A10 := Aside0.mk A100
          clear A100
          by_cases c11 : t119 < 0
          ·rw [if_pos c11] at H
           have c11b0 : decide (t119 < 0) = true := decide_eq_true c11
           clear c11
           simp only [Option.some.injEq, Prod.mk.injEq] at H
           obtain ⟨rfl, rfl⟩ := H
           go_wp2_with (first | ((with_reducible refine gate_callee (f := 36) rfl ?_); refine goesL_ (some 28) rfl rfl Tryd.func36 (by kernel_rfl) rfl #[.string (⟨#[65, 66, 67, 68, 69, 70, 71, 72, 73, 74, 75, 76, 77, 78, 79, 80, 81, 82, 83, 84, 85, 86, 87, 88, 89, 90, 50, 51, 52, 53, 54, 55]⟩ : ByteArray), .int .u8 (((bt a0 x13_1) - 32) % 256)] rfl ml ?_; (with_reducible refine (strings_IndexByte.calls (⟨#[65, 66, 67, 68, 69, 70, 71, 72, 73, 74, 75, 76, 77, 78, 79, 80, 81, 82, 83, 84, 85, 86, 87, 88, 89, 90, 50, 51, 52, 53, 54, 55]⟩ : ByteArray) (((bt a0 x13_1) - 32) % 256) t119 _ A10.out).mono ?_); rintro e w' ⟨rfl, ⟨nd, rfl⟩⟩; refine ⟨_, rfl, ?_⟩))
           go_ret2
           exact ⟨by first | rfl | (simp [bneNil]; done) | (simp; done) | (simp [*]; done), by repeat (first | exact Drawn0.refl _ | apply Drawn0.step)⟩
          ·rw [if_neg c11] at H
           have c11b0 : decide (t119 < 0) = false := decide_eq_false c11
           clear c11
           have H' := Aside0.mk H
           clear H
           go_wp2_with (first | ((with_reducible refine gate_callee (f := 36) rfl ?_); refine goesL_ (some 28) rfl rfl Tryd.func36 (by kernel_rfl) rfl #[.string (⟨#[65, 66, 67, 68, 69, 70, 71, 72, 73, 74, 75, 76, 77, 78, 79, 80, 81, 82, 83, 84, 85, 86, 87, 88, 89, 90, 50, 51, 52, 53, 54, 55]⟩ : ByteArray), .int .u8 (((bt a0 x13_1) - 32) % 256)] rfl ml ?_; (with_reducible refine (strings_IndexByte.calls (⟨#[65, 66, 67, 68, 69, 70, 71, 72, 73, 74, 75, 76, 77, 78, 79, 80, 81, 82, 83, 84, 85, 86, 87, 88, 89, 90, 50, 51, 52, 53, 54, 55]⟩ : ByteArray) (((bt a0 x13_1) - 32) % 256) t119 _ A10.out).mono ?_); rintro e w' ⟨rfl, ⟨nd, rfl⟩⟩; refine ⟨_, rfl, ?_⟩))
           go_roundg kj6
           case measure => have := HK1.out; have := HJ6.out; omega
           case rel => exact ⟨(Go.bits .or .i64 (wrap64 (x4_1 * 32)) t119), (wrap64 (x13_1 + 1)), (by first | rfl | (simp; done) | (simp [*]; done)), (by first | rfl | (simp; done) | (simp [*]; done)), H', ⟨by have := HK1.out; have := HJ6.out; omega⟩, by repeat (first | exact Drawn0.refl _ | apply Drawn0.step)⟩
         ·replace c9 := Bool.eq_false_iff.mpr c9
          subst c9
          have H1 : ((strings_IndexByte.f (⟨#[65, 66, 67, 68, 69, 70, 71, 72, 73, 74, 75, 76, 77, 78, 79, 80, 81, 82, 83, 84, 85, 86, 87, 88, 89, 90, 50, 51, 52, 53, 54, 55]⟩ : ByteArray) (bt a0 x13_1)).bind fun t120 => (if t120 < 0 then (some (0, 5)) else (stamp_Parse.l0 kj6 a0 (Go.bits .or .i64 (wrap64 (x4_1 * 32)) t120) (a0.size : Int) (wrap64 (x13_1 + 1))))) = some (r1, r2) := by rw [if_neg (show ¬ (false = true) by decide)] at H; exact H
          clear H
          have H := H1
          clear H1
          replace H := Option.bind_eq_some_iff.mp H
          obtain ⟨t120, A120, H⟩ := H
          replace H : (if t120 < 0 then (some (0, 5)) else (stamp_Parse.l0 kj6 a0 (Go.bits .or .i64 (wrap64 (x4_1 * 32)) t120) (a0.size : Int) (wrap64 (x13_1 + 1)))) = some (r1, r2) := H
          have A12 := Aside0.mk A120
          clear A120
          by_cases c13 : t120 < 0
          ·rw [if_pos c13] at H
           have c13b0 : decide (t120 < 0) = true := decide_eq_true c13
           clear c13
           simp only [Option.some.injEq, Prod.mk.injEq] at H
           obtain ⟨rfl, rfl⟩ := H
           go_wp2_with (first | ((with_reducible refine gate_callee (f := 36) rfl ?_); refine goesL_ (some 28) rfl rfl Tryd.func36 (by kernel_rfl) rfl #[.string (⟨#[65, 66, 67, 68, 69, 70, 71, 72, 73, 74, 75, 76, 77, 78, 79, 80, 81, 82, 83, 84, 85, 86, 87, 88, 89, 90, 50, 51, 52, 53, 54, 55]⟩ : ByteArray), .int .u8 (bt a0 x13_1)] rfl ml ?_; (with_reducible refine (strings_IndexByte.calls (⟨#[65, 66, 67, 68, 69, 70, 71, 72, 73, 74, 75, 76, 77, 78, 79, 80, 81, 82, 83, 84, 85, 86, 87, 88, 89, 90, 50, 51, 52, 53, 54, 55]⟩ : ByteArray) (bt a0 x13_1) t120 _ A12.out).mono ?_); rintro e w' ⟨rfl, ⟨nd, rfl⟩⟩; refine ⟨_, rfl, ?_⟩))
           go_ret2
           exact ⟨by first | rfl | (simp [bneNil]; done) | (simp; done) | (simp [*]; done), by repeat (first | exact Drawn0.refl _ | apply Drawn0.step)⟩
          ·rw [if_neg c13] at H
           have c13b0 : decide (t120 < 0) = false := decide_eq_false c13
           clear c13
           have H' := Aside0.mk H
           clear H
           go_wp2_with (first | ((with_reducible refine gate_callee (f := 36) rfl ?_); refine goesL_ (some 28) rfl rfl Tryd.func36 (by kernel_rfl) rfl #[.string (⟨#[65, 66, 67, 68, 69, 70, 71, 72, 73, 74, 75, 76, 77, 78, 79, 80, 81, 82, 83, 84, 85, 86, 87, 88, 89, 90, 50, 51, 52, 53, 54, 55]⟩ : ByteArray), .int .u8 (bt a0 x13_1)] rfl ml ?_; (with_reducible refine (strings_IndexByte.calls (⟨#[65, 66, 67, 68, 69, 70, 71, 72, 73, 74, 75, 76, 77, 78, 79, 80, 81, 82, 83, 84, 85, 86, 87, 88, 89, 90, 50, 51, 52, 53, 54, 55]⟩ : ByteArray) (bt a0 x13_1) t120 _ A12.out).mono ?_); rintro e w' ⟨rfl, ⟨nd, rfl⟩⟩; refine ⟨_, rfl, ?_⟩))
           go_roundg kj6
           case measure => have := HK1.out; have := HJ6.out; omega
           case rel => exact ⟨(Go.bits .or .i64 (wrap64 (x4_1 * 32)) t120), (wrap64 (x13_1 + 1)), (by first | rfl | (simp; done) | (simp [*]; done)), (by first | rfl | (simp; done) | (simp [*]; done)), H', ⟨by have := HK1.out; have := HJ6.out; omega⟩, by repeat (first | exact Drawn0.refl _ | apply Drawn0.step)⟩
      ·rw [if_neg c5] at H
       exact absurd H (by simp)
     ·rw [if_neg c4] at H
      exact absurd H (by simp)
    ·rw [if_neg c3] at H
     have c3b0 : decide (x13_1 < (a0.size : Int)) = false := decide_eq_false c3
     clear c3
     simp only [Option.some.injEq, Prod.mk.injEq] at H
     obtain ⟨rfl, rfl⟩ := H
     go_wp2
     go_ret2
     exact ⟨by first | rfl | (simp [bneNil]; done) | (simp; done) | (simp [*]; done), by repeat (first | exact Drawn0.refl _ | apply Drawn0.step)⟩
 ·rw [if_neg c2] at H
  have c2b0 : ((a0.size : Int) == 2) = false := beq_eq_false_iff_ne.mpr c2
  have c2b1 : ((a0.size : Int) != 2) = true := bne_iff_ne.mpr c2
  simp only [Option.some.injEq, Prod.mk.injEq] at H
  obtain ⟨rfl, rfl⟩ := H
  go_enter Tryd.func18, Tryd.ntmps18
  go_wp2
  go_ret2
  exact ⟨by first | rfl | (simp [bneNil]; done) | (simp; done) | (simp [*]; done), by repeat (first | exact Drawn0.refl _ | apply Drawn0.step)⟩

/-! ### postriderlaw09_wakes: function 16 -/
def postriderlaw09_wakes.f (k : Nat)  : Option (Bool) := (stamp_Parse.f k (⟨#[65, 66]⟩ : ByteArray)).bind fun bt121 => ((stamp_Text.f 0).bind fun t123 => (if t123.toList = ([65, 65] : List UInt8) then ((stamp_Text.f 33).bind fun t124 => (if t124.toList = ([66, 66] : List UInt8) then ((stamp_Text.f 1023).bind fun t125 => (if t125.toList = ([55, 55] : List UInt8) then (if bt121.2 = 0 then ((stamp_Age.f bt121.1 5).bind fun t126 => (if t126 = 4 then ((stamp_Date.f k 951782400).bind fun t127 => (some (t127.toList == ([84, 117, 101, 44, 32, 50, 57, 32, 70, 101, 98, 32, 50, 48, 48, 48, 32, 48, 48, 58, 48, 48, 58, 48, 48, 32, 43, 48, 48, 48, 48] : List UInt8)))) else (some false))) else (some false)) else (some false))) else (some false))) else (some false)))
theorem postriderlaw09_wakes.mono : ∀ k, LeO (postriderlaw09_wakes.f k ) (postriderlaw09_wakes.f (k + 1) ) := by
 intro  k
 unfold postriderlaw09_wakes.f
 repeat' first
   | (with_reducible exact stamp_Date.mono _ _)
   | (with_reducible exact stamp_Parse.mono _ _)
   | (with_reducible exact LeO.refl _)
   | (with_reducible exact LeO.none _)
   | (with_reducible refine LeO.ite ?_ ?_)
   | (with_reducible refine LeO.bind ?_ (fun _ => ?_))
   | exact stamp_Date.mono _ _
   | exact stamp_Parse.mono _ _
   | exact LeO.none _
   | refine LeO.ite ?_ ?_
   | refine LeO.bind ?_ (fun _ => ?_)
set_option maxHeartbeats 8000000 in
set_option maxRecDepth 100000 in
theorem postriderlaw09_wakes.calls (k : Nat)  (r : Bool) (w : World) (hG : Glob w) (h : postriderlaw09_wakes.f k  = some r) :
  Calls Tryd.prog 16 #[] w fun e w' => e = .returned (.bool r) ∧ Below w.heap.size w w' := by
 have HB := Aside0.mk (Below.refl w.heap.size w)
 have HG := Aside0.mk hG
 clear hG
 have H : ((stamp_Parse.f k (⟨#[65, 66]⟩ : ByteArray)).bind fun bt121 => ((stamp_Text.f 0).bind fun t123 => (if t123.toList = ([65, 65] : List UInt8) then ((stamp_Text.f 33).bind fun t124 => (if t124.toList = ([66, 66] : List UInt8) then ((stamp_Text.f 1023).bind fun t125 => (if t125.toList = ([55, 55] : List UInt8) then (if bt121.2 = 0 then ((stamp_Age.f bt121.1 5).bind fun t126 => (if t126 = 4 then ((stamp_Date.f k 951782400).bind fun t127 => (some (t127.toList == ([84, 117, 101, 44, 32, 50, 57, 32, 70, 101, 98, 32, 50, 48, 48, 48, 32, 48, 48, 58, 48, 48, 58, 48, 48, 32, 43, 48, 48, 48, 48] : List UInt8)))) else (some false))) else (some false)) else (some false))) else (some false))) else (some false)))) = some r := h
 clear h
 replace H := Option.bind_eq_some_iff.mp H
 obtain ⟨⟨t121, t122⟩, A10, H⟩ := H
 replace H : ((stamp_Text.f 0).bind fun t123 => (if t123.toList = ([65, 65] : List UInt8) then ((stamp_Text.f 33).bind fun t124 => (if t124.toList = ([66, 66] : List UInt8) then ((stamp_Text.f 1023).bind fun t125 => (if t125.toList = ([55, 55] : List UInt8) then (if t122 = 0 then ((stamp_Age.f t121 5).bind fun t126 => (if t126 = 4 then ((stamp_Date.f k 951782400).bind fun t127 => (some (t127.toList == ([84, 117, 101, 44, 32, 50, 57, 32, 70, 101, 98, 32, 50, 48, 48, 48, 32, 48, 48, 58, 48, 48, 58, 48, 48, 32, 43, 48, 48, 48, 48] : List UInt8)))) else (some false))) else (some false)) else (some false))) else (some false))) else (some false))) = some r := H
 have A1 := Aside0.mk A10
 clear A10
 replace H := Option.bind_eq_some_iff.mp H
 obtain ⟨t123, A20, H⟩ := H
 replace H : (if t123.toList = ([65, 65] : List UInt8) then ((stamp_Text.f 33).bind fun t124 => (if t124.toList = ([66, 66] : List UInt8) then ((stamp_Text.f 1023).bind fun t125 => (if t125.toList = ([55, 55] : List UInt8) then (if t122 = 0 then ((stamp_Age.f t121 5).bind fun t126 => (if t126 = 4 then ((stamp_Date.f k 951782400).bind fun t127 => (some (t127.toList == ([84, 117, 101, 44, 32, 50, 57, 32, 70, 101, 98, 32, 50, 48, 48, 48, 32, 48, 48, 58, 48, 48, 58, 48, 48, 32, 43, 48, 48, 48, 48] : List UInt8)))) else (some false))) else (some false)) else (some false))) else (some false))) else (some false)) = some r := H
 have A2 := Aside0.mk A20
 clear A20
 by_cases c3 : t123.toList = ([65, 65] : List UInt8)
 ·rw [if_pos c3] at H
  have c3b0 : (t123.toList == ([65, 65] : List UInt8)) = true := beq_iff_eq.mpr c3
  have c3b1 : (t123.toList != ([65, 65] : List UInt8)) = false := bne_eq_false_iff_eq.mpr c3
  clear c3
  replace H := Option.bind_eq_some_iff.mp H
  obtain ⟨t124, A40, H⟩ := H
  replace H : (if t124.toList = ([66, 66] : List UInt8) then ((stamp_Text.f 1023).bind fun t125 => (if t125.toList = ([55, 55] : List UInt8) then (if t122 = 0 then ((stamp_Age.f t121 5).bind fun t126 => (if t126 = 4 then ((stamp_Date.f k 951782400).bind fun t127 => (some (t127.toList == ([84, 117, 101, 44, 32, 50, 57, 32, 70, 101, 98, 32, 50, 48, 48, 48, 32, 48, 48, 58, 48, 48, 58, 48, 48, 32, 43, 48, 48, 48, 48] : List UInt8)))) else (some false))) else (some false)) else (some false))) else (some false)) = some r := H
  have A4 := Aside0.mk A40
  clear A40
  by_cases c5 : t124.toList = ([66, 66] : List UInt8)
  ·rw [if_pos c5] at H
   have c5b0 : (t124.toList == ([66, 66] : List UInt8)) = true := beq_iff_eq.mpr c5
   have c5b1 : (t124.toList != ([66, 66] : List UInt8)) = false := bne_eq_false_iff_eq.mpr c5
   clear c5
   replace H := Option.bind_eq_some_iff.mp H
   obtain ⟨t125, A60, H⟩ := H
   replace H : (if t125.toList = ([55, 55] : List UInt8) then (if t122 = 0 then ((stamp_Age.f t121 5).bind fun t126 => (if t126 = 4 then ((stamp_Date.f k 951782400).bind fun t127 => (some (t127.toList == ([84, 117, 101, 44, 32, 50, 57, 32, 70, 101, 98, 32, 50, 48, 48, 48, 32, 48, 48, 58, 48, 48, 58, 48, 48, 32, 43, 48, 48, 48, 48] : List UInt8)))) else (some false))) else (some false)) else (some false)) = some r := H
   have A6 := Aside0.mk A60
   clear A60
   by_cases c7 : t125.toList = ([55, 55] : List UInt8)
   ·rw [if_pos c7] at H
    have c7b0 : (t125.toList == ([55, 55] : List UInt8)) = true := beq_iff_eq.mpr c7
    have c7b1 : (t125.toList != ([55, 55] : List UInt8)) = false := bne_eq_false_iff_eq.mpr c7
    clear c7
    by_cases c8 : t122 = 0
    ·rw [if_pos c8] at H
     have c8b0 : (t122 == 0) = true := beq_iff_eq.mpr c8
     have c8b1 : (t122 != 0) = false := bne_eq_false_iff_eq.mpr c8
     clear c8
     replace H := Option.bind_eq_some_iff.mp H
     obtain ⟨t126, A90, H⟩ := H
     replace H : (if t126 = 4 then ((stamp_Date.f k 951782400).bind fun t127 => (some (t127.toList == ([84, 117, 101, 44, 32, 50, 57, 32, 70, 101, 98, 32, 50, 48, 48, 48, 32, 48, 48, 58, 48, 48, 58, 48, 48, 32, 43, 48, 48, 48, 48] : List UInt8)))) else (some false)) = some r := H
     have A9 := Aside0.mk A90
     clear A90
     by_cases c10 : t126 = 4
     ·rw [if_pos c10] at H
      have c10b0 : (t126 == 4) = true := beq_iff_eq.mpr c10
      have c10b1 : (t126 != 4) = false := bne_eq_false_iff_eq.mpr c10
      clear c10
      replace H := Option.bind_eq_some_iff.mp H
      obtain ⟨t127, A110, H⟩ := H
      replace H : (some (t127.toList == ([84, 117, 101, 44, 32, 50, 57, 32, 70, 101, 98, 32, 50, 48, 48, 48, 32, 48, 48, 58, 48, 48, 58, 48, 48, 32, 43, 48, 48, 48, 48] : List UInt8))) = some r := H
      have A11 := Aside0.mk A110
      clear A110
      obtain rfl := Option.some.inj H
      go_enter Tryd.func16, Tryd.ntmps16
      go_wp2_with (first | ((with_reducible refine gate_callee (f := 18) rfl ?_); refine goesL_ (some 4) rfl rfl Tryd.func18 (by kernel_rfl) rfl #[.string (⟨#[65, 66]⟩ : ByteArray)] rfl ml ?_; (with_reducible refine (stamp_Parse.calls k (⟨#[65, 66]⟩ : ByteArray) t121 t122 _ A1.out).mono ?_); rintro e w' ⟨rfl, ⟨nd, rfl⟩⟩; refine ⟨_, rfl, ?_⟩) | ((with_reducible refine gate_callee (f := 10) rfl ?_); refine goesL_ (some 7) rfl rfl Tryd.func10 (by kernel_rfl) rfl #[.int .i64 0] rfl ml ?_; (with_reducible refine (stamp_Text.calls 0 t123 _ A2.out).mono ?_); rintro e w12 ⟨rfl, hb⟩; refine ⟨_, rfl, ?_⟩; have n0_ := Aside0.mk (below_step bl hb); clear HB; have HB := n0_; clear n0_; (try clear hb); (try clear hb2); (try clear hk); (try clear hi)) | (go_at_call 10; (with_reducible refine (stamp_Text.calls 33 t124 _ A4.out).mono ?_); rintro e w13 ⟨rfl, hb⟩; have n0_ := Aside0.mk (below_step bl hb); clear HB; have HB := n0_; clear n0_; (try clear hb); (try clear hb2); (try clear hk); (try clear hi)) | (go_at_call 10; (with_reducible refine (stamp_Text.calls 1023 t125 _ A6.out).mono ?_); rintro e w14 ⟨rfl, hb⟩; have n0_ := Aside0.mk (below_step bl hb); clear HB; have HB := n0_; clear n0_; (try clear hb); (try clear hb2); (try clear hk); (try clear hi)) | (go_at_call 12; (with_reducible refine (stamp_Age.calls t121 5 t126 _ A9.out).mono ?_); rintro e w15 ⟨rfl, hb⟩; have n0_ := Aside0.mk (below_step bl hb); clear HB; have HB := n0_; clear n0_; (try clear hb); (try clear hb2); (try clear hk); (try clear hi)) | (go_at_call 14; (with_reducible refine (stamp_Date.calls k 951782400 t127 _ ?side1 A11.out).mono ?_); (case side1 => exact Glob.below HG.out bl); rintro e w16 ⟨rfl, hb⟩; have n0_ := Aside0.mk (below_step bl hb); clear HB; have HB := n0_; clear n0_; (try clear hb); (try clear hb2); (try clear hk); (try clear hi)))
      go_ret
      exact ⟨by first | rfl | (simp [bneNil]; done) | (simp [errW_none, errW_some] <;> rfl) | (simp [*, errW_none, errW_some] <;> rfl), by repeat (first | (with_reducible first | exact HB.out | apply below_alloc | apply pw_below_drewN | apply below_drew1) | exact HB.out)⟩
     ·rw [if_neg c10] at H
      have c10b0 : (t126 == 4) = false := beq_eq_false_iff_ne.mpr c10
      have c10b1 : (t126 != 4) = true := bne_iff_ne.mpr c10
      obtain rfl := Option.some.inj H
      go_enter Tryd.func16, Tryd.ntmps16
      go_wp2_with (first | ((with_reducible refine gate_callee (f := 18) rfl ?_); refine goesL_ (some 4) rfl rfl Tryd.func18 (by kernel_rfl) rfl #[.string (⟨#[65, 66]⟩ : ByteArray)] rfl ml ?_; (with_reducible refine (stamp_Parse.calls k (⟨#[65, 66]⟩ : ByteArray) t121 t122 _ A1.out).mono ?_); rintro e w' ⟨rfl, ⟨nd, rfl⟩⟩; refine ⟨_, rfl, ?_⟩) | ((with_reducible refine gate_callee (f := 10) rfl ?_); refine goesL_ (some 7) rfl rfl Tryd.func10 (by kernel_rfl) rfl #[.int .i64 0] rfl ml ?_; (with_reducible refine (stamp_Text.calls 0 t123 _ A2.out).mono ?_); rintro e w17 ⟨rfl, hb⟩; refine ⟨_, rfl, ?_⟩; have n0_ := Aside0.mk (below_step bl hb); clear HB; have HB := n0_; clear n0_; (try clear hb); (try clear hb2); (try clear hk); (try clear hi)) | (go_at_call 10; (with_reducible refine (stamp_Text.calls 33 t124 _ A4.out).mono ?_); rintro e w18 ⟨rfl, hb⟩; have n0_ := Aside0.mk (below_step bl hb); clear HB; have HB := n0_; clear n0_; (try clear hb); (try clear hb2); (try clear hk); (try clear hi)) | (go_at_call 10; (with_reducible refine (stamp_Text.calls 1023 t125 _ A6.out).mono ?_); rintro e w19 ⟨rfl, hb⟩; have n0_ := Aside0.mk (below_step bl hb); clear HB; have HB := n0_; clear n0_; (try clear hb); (try clear hb2); (try clear hk); (try clear hi)) | (go_at_call 12; (with_reducible refine (stamp_Age.calls t121 5 t126 _ A9.out).mono ?_); rintro e w20 ⟨rfl, hb⟩; have n0_ := Aside0.mk (below_step bl hb); clear HB; have HB := n0_; clear n0_; (try clear hb); (try clear hb2); (try clear hk); (try clear hi)))
      go_ret
      exact ⟨by first | rfl | (simp [bneNil]; done) | (simp [errW_none, errW_some] <;> rfl) | (simp [*, errW_none, errW_some] <;> rfl), by repeat (first | (with_reducible first | exact HB.out | apply below_alloc | apply pw_below_drewN | apply below_drew1) | exact HB.out)⟩
    ·rw [if_neg c8] at H
     have c8b0 : (t122 == 0) = false := beq_eq_false_iff_ne.mpr c8
     have c8b1 : (t122 != 0) = true := bne_iff_ne.mpr c8
     obtain rfl := Option.some.inj H
     go_enter Tryd.func16, Tryd.ntmps16
     go_wp2_with (first | ((with_reducible refine gate_callee (f := 18) rfl ?_); refine goesL_ (some 4) rfl rfl Tryd.func18 (by kernel_rfl) rfl #[.string (⟨#[65, 66]⟩ : ByteArray)] rfl ml ?_; (with_reducible refine (stamp_Parse.calls k (⟨#[65, 66]⟩ : ByteArray) t121 t122 _ A1.out).mono ?_); rintro e w' ⟨rfl, ⟨nd, rfl⟩⟩; refine ⟨_, rfl, ?_⟩) | ((with_reducible refine gate_callee (f := 10) rfl ?_); refine goesL_ (some 7) rfl rfl Tryd.func10 (by kernel_rfl) rfl #[.int .i64 0] rfl ml ?_; (with_reducible refine (stamp_Text.calls 0 t123 _ A2.out).mono ?_); rintro e w21 ⟨rfl, hb⟩; refine ⟨_, rfl, ?_⟩; have n0_ := Aside0.mk (below_step bl hb); clear HB; have HB := n0_; clear n0_; (try clear hb); (try clear hb2); (try clear hk); (try clear hi)) | (go_at_call 10; (with_reducible refine (stamp_Text.calls 33 t124 _ A4.out).mono ?_); rintro e w22 ⟨rfl, hb⟩; have n0_ := Aside0.mk (below_step bl hb); clear HB; have HB := n0_; clear n0_; (try clear hb); (try clear hb2); (try clear hk); (try clear hi)) | (go_at_call 10; (with_reducible refine (stamp_Text.calls 1023 t125 _ A6.out).mono ?_); rintro e w23 ⟨rfl, hb⟩; have n0_ := Aside0.mk (below_step bl hb); clear HB; have HB := n0_; clear n0_; (try clear hb); (try clear hb2); (try clear hk); (try clear hi)))
     go_ret
     exact ⟨by first | rfl | (simp [bneNil]; done) | (simp [errW_none, errW_some] <;> rfl) | (simp [*, errW_none, errW_some] <;> rfl), by repeat (first | (with_reducible first | exact HB.out | apply below_alloc | apply pw_below_drewN | apply below_drew1) | exact HB.out)⟩
   ·rw [if_neg c7] at H
    have c7b0 : (t125.toList == ([55, 55] : List UInt8)) = false := beq_eq_false_iff_ne.mpr c7
    have c7b1 : (t125.toList != ([55, 55] : List UInt8)) = true := bne_iff_ne.mpr c7
    obtain rfl := Option.some.inj H
    go_enter Tryd.func16, Tryd.ntmps16
    go_wp2_with (first | ((with_reducible refine gate_callee (f := 18) rfl ?_); refine goesL_ (some 4) rfl rfl Tryd.func18 (by kernel_rfl) rfl #[.string (⟨#[65, 66]⟩ : ByteArray)] rfl ml ?_; (with_reducible refine (stamp_Parse.calls k (⟨#[65, 66]⟩ : ByteArray) t121 t122 _ A1.out).mono ?_); rintro e w' ⟨rfl, ⟨nd, rfl⟩⟩; refine ⟨_, rfl, ?_⟩) | ((with_reducible refine gate_callee (f := 10) rfl ?_); refine goesL_ (some 7) rfl rfl Tryd.func10 (by kernel_rfl) rfl #[.int .i64 0] rfl ml ?_; (with_reducible refine (stamp_Text.calls 0 t123 _ A2.out).mono ?_); rintro e w24 ⟨rfl, hb⟩; refine ⟨_, rfl, ?_⟩; have n0_ := Aside0.mk (below_step bl hb); clear HB; have HB := n0_; clear n0_; (try clear hb); (try clear hb2); (try clear hk); (try clear hi)) | (go_at_call 10; (with_reducible refine (stamp_Text.calls 33 t124 _ A4.out).mono ?_); rintro e w25 ⟨rfl, hb⟩; have n0_ := Aside0.mk (below_step bl hb); clear HB; have HB := n0_; clear n0_; (try clear hb); (try clear hb2); (try clear hk); (try clear hi)) | (go_at_call 10; (with_reducible refine (stamp_Text.calls 1023 t125 _ A6.out).mono ?_); rintro e w26 ⟨rfl, hb⟩; have n0_ := Aside0.mk (below_step bl hb); clear HB; have HB := n0_; clear n0_; (try clear hb); (try clear hb2); (try clear hk); (try clear hi)))
    go_ret
    exact ⟨by first | rfl | (simp [bneNil]; done) | (simp [errW_none, errW_some] <;> rfl) | (simp [*, errW_none, errW_some] <;> rfl), by repeat (first | (with_reducible first | exact HB.out | apply below_alloc | apply pw_below_drewN | apply below_drew1) | exact HB.out)⟩
  ·rw [if_neg c5] at H
   have c5b0 : (t124.toList == ([66, 66] : List UInt8)) = false := beq_eq_false_iff_ne.mpr c5
   have c5b1 : (t124.toList != ([66, 66] : List UInt8)) = true := bne_iff_ne.mpr c5
   obtain rfl := Option.some.inj H
   go_enter Tryd.func16, Tryd.ntmps16
   go_wp2_with (first | ((with_reducible refine gate_callee (f := 18) rfl ?_); refine goesL_ (some 4) rfl rfl Tryd.func18 (by kernel_rfl) rfl #[.string (⟨#[65, 66]⟩ : ByteArray)] rfl ml ?_; (with_reducible refine (stamp_Parse.calls k (⟨#[65, 66]⟩ : ByteArray) t121 t122 _ A1.out).mono ?_); rintro e w' ⟨rfl, ⟨nd, rfl⟩⟩; refine ⟨_, rfl, ?_⟩) | ((with_reducible refine gate_callee (f := 10) rfl ?_); refine goesL_ (some 7) rfl rfl Tryd.func10 (by kernel_rfl) rfl #[.int .i64 0] rfl ml ?_; (with_reducible refine (stamp_Text.calls 0 t123 _ A2.out).mono ?_); rintro e w27 ⟨rfl, hb⟩; refine ⟨_, rfl, ?_⟩; have n0_ := Aside0.mk (below_step bl hb); clear HB; have HB := n0_; clear n0_; (try clear hb); (try clear hb2); (try clear hk); (try clear hi)) | (go_at_call 10; (with_reducible refine (stamp_Text.calls 33 t124 _ A4.out).mono ?_); rintro e w28 ⟨rfl, hb⟩; have n0_ := Aside0.mk (below_step bl hb); clear HB; have HB := n0_; clear n0_; (try clear hb); (try clear hb2); (try clear hk); (try clear hi)))
   go_ret
   exact ⟨by first | rfl | (simp [bneNil]; done) | (simp [errW_none, errW_some] <;> rfl) | (simp [*, errW_none, errW_some] <;> rfl), by repeat (first | (with_reducible first | exact HB.out | apply below_alloc | apply pw_below_drewN | apply below_drew1) | exact HB.out)⟩
 ·rw [if_neg c3] at H
  have c3b0 : (t123.toList == ([65, 65] : List UInt8)) = false := beq_eq_false_iff_ne.mpr c3
  have c3b1 : (t123.toList != ([65, 65] : List UInt8)) = true := bne_iff_ne.mpr c3
  obtain rfl := Option.some.inj H
  go_enter Tryd.func16, Tryd.ntmps16
  go_wp2_with (first | ((with_reducible refine gate_callee (f := 18) rfl ?_); refine goesL_ (some 4) rfl rfl Tryd.func18 (by kernel_rfl) rfl #[.string (⟨#[65, 66]⟩ : ByteArray)] rfl ml ?_; (with_reducible refine (stamp_Parse.calls k (⟨#[65, 66]⟩ : ByteArray) t121 t122 _ A1.out).mono ?_); rintro e w' ⟨rfl, ⟨nd, rfl⟩⟩; refine ⟨_, rfl, ?_⟩) | ((with_reducible refine gate_callee (f := 10) rfl ?_); refine goesL_ (some 7) rfl rfl Tryd.func10 (by kernel_rfl) rfl #[.int .i64 0] rfl ml ?_; (with_reducible refine (stamp_Text.calls 0 t123 _ A2.out).mono ?_); rintro e w29 ⟨rfl, hb⟩; refine ⟨_, rfl, ?_⟩; have n0_ := Aside0.mk (below_step bl hb); clear HB; have HB := n0_; clear n0_; (try clear hb); (try clear hb2); (try clear hk); (try clear hi)))
  go_ret
  exact ⟨by first | rfl | (simp [bneNil]; done) | (simp [errW_none, errW_some] <;> rfl) | (simp [*, errW_none, errW_some] <;> rfl), by repeat (first | (with_reducible first | exact HB.out | apply below_alloc | apply pw_below_drewN | apply below_drew1) | exact HB.out)⟩

/-! ### strings_Split: function 59 (by hand) -/
def strings_Split.f (a0 a1 : ByteArray) : Option (List ByteArray) := if a0.size < 4294967281 ∧ 1 ≤ a1.size then some (Lib.splitB a1 0 (Lib.countB a0 a1) a0) else none
theorem strings_Split.calls (a0 a1 : ByteArray) (r : List ByteArray) (w : World) (hG : Glob w) (h : strings_Split.f a0 a1 = some r) :
    Calls Tryd.prog 59 #[.string a0, .string a1] w fun e w' => ∃ v0_ : Value, e = .returned (v0_) ∧ Kd.R Kd.string 9 w' w.heap.size (fun _ => True) v0_ r ∧ Below w.heap.size w w' := by
  unfold strings_Split.f at h
  split at h
  · rename_i hs
    obtain rfl := Option.some.inj h
    obtain ⟨m, hm⟩ := hG.mx
    refine (Tryd.strings_Split a0 a1 m w hs.1 hm hs.2).mono ?_
    rintro e w' ⟨rfl, rfl⟩
    have hl := Lib.splitB_all a1 hs.2 0 _ a0 rfl
    have hc := Lib.countB_le a1 hs.2 a0.size a0 (Nat.le_refl _)
    have ho := own_lit_of (enc := Value.string) w w.heap.size 9 (Lib.splitB a1 0 (Lib.countB a0 a1) a0) (Nat.le_refl _) (by rw [hl]; omega)
    refine ⟨_, rfl, Kd.R_of_own ?_ (fun _ _ => trivial), (Below.refl _ _).alloc (Nat.le_refl _) _⟩
    rw [hl] at ho ⊢
    exact ho
  · cases h


/-! ### stringslite_HasSuffix: function 35 -/
def stringslite_HasSuffix.f (a0 : ByteArray) (a1 : ByteArray) : Option (Bool) := if (a0.size : Int) ≥ (a1.size : Int) then (if 0 ≤ (wrap64 ((a0.size : Int) - (a1.size : Int))) then (if (wrap64 ((a0.size : Int) - (a1.size : Int))) ≤ (a0.size : Int) then (some ((a0.extract ((wrap64 ((a0.size : Int) - (a1.size : Int))) : Int).toNat a0.size).toList == a1.toList)) else (none)) else (none)) else (some false)
set_option maxHeartbeats 8000000 in
set_option maxRecDepth 100000 in
theorem stringslite_HasSuffix.calls (a0 : ByteArray) (a1 : ByteArray) (r : Bool) (w : World) (h : stringslite_HasSuffix.f a0 a1 = some r) :
    Calls Tryd.prog 35 #[.string a0, .string a1] w fun e w' => e = .returned (.bool r) ∧ Drawn0 w w' := by
  have H : (if (a0.size : Int) ≥ (a1.size : Int) then (if 0 ≤ (wrap64 ((a0.size : Int) - (a1.size : Int))) then (if (wrap64 ((a0.size : Int) - (a1.size : Int))) ≤ (a0.size : Int) then (some ((a0.extract ((wrap64 ((a0.size : Int) - (a1.size : Int))) : Int).toNat a0.size).toList == a1.toList)) else (none)) else (none)) else (some false)) = some r := h
  clear h
  by_cases c3 : (a0.size : Int) ≥ (a1.size : Int)
  · rw [if_pos c3] at H
    have c3b0 : decide ((a1.size : Int) ≤ (a0.size : Int)) = true := decide_eq_true c3
    have c3b1 : decide (a1.size ≤ a0.size) = true := decide_eq_true (Int.ofNat_le.mp c3)
    clear c3
    obtain ⟨ji4, hji4⟩ : ∃ j_ : Int, (wrap64 ((a0.size : Int) - (a1.size : Int))) = j_ := ⟨_, rfl⟩
    replace H : (if 0 ≤ (ji4) then (if (ji4) ≤ (a0.size : Int) then (some ((a0.extract ((ji4) : Int).toNat a0.size).toList == a1.toList)) else (none)) else (none)) = some r := by first | (rw [hji4] at H; exact H) | (simp only [hji4] at H ⊢; exact H)
    have hji4w : (IntKind.i64.wrap ((a0.size : Int) - (a1.size : Int))) = ji4 := (i64_w _).trans hji4
    by_cases c5 : 0 ≤ (ji4)
    · rw [if_pos c5] at H
      have c5b0 := eq_true c5
      have c5b1 : decide (0 ≤ (ji4)) = true := decide_eq_true c5
      clear c5
      by_cases c6 : (ji4) ≤ (a0.size : Int)
      · rw [if_pos c6] at H
        have c6b0 := eq_true c6
        have c6b1 : decide ((ji4) ≤ (a0.size : Int)) = true := decide_eq_true c6
        clear c6
        obtain rfl := Option.some.inj H
        go_enter Tryd.func35, Tryd.ntmps35
        go_wp2
        go_ret
        exact ⟨by first | rfl | (simp [bneNil]; done) | (simp; done) | (simp only [← hji4] <;> (first | rfl | simp)) | (simp [*]; done), by repeat (first | exact Drawn0.refl _ | apply Drawn0.step)⟩
      · rw [if_neg c6] at H
        exact absurd H (by simp)
    · rw [if_neg c5] at H
      exact absurd H (by simp)
  · rw [if_neg c3] at H
    have c3b0 : decide ((a1.size : Int) ≤ (a0.size : Int)) = false := decide_eq_false c3
    have c3b1 : decide (a1.size ≤ a0.size) = false := decide_eq_false (fun h => c3 (Int.ofNat_le.mpr h))
    clear c3
    obtain rfl := Option.some.inj H
    go_enter Tryd.func35, Tryd.ntmps35
    go_wp2
    go_ret
    exact ⟨by first | rfl | (simp [bneNil]; done) | (simp; done) | (simp [*]; done), by repeat (first | exact Drawn0.refl _ | apply Drawn0.step)⟩

/-! ### stringslite_CutSuffix: function 82 -/
def stringslite_CutSuffix.f (a0 : ByteArray) (a1 : ByteArray) : Option (ByteArray × Bool) := (stringslite_HasSuffix.f a0 a1).bind fun t128 => (if t128 = true then (if 0 ≤ (wrap64 ((a0.size : Int) - (a1.size : Int))) then (if (wrap64 ((a0.size : Int) - (a1.size : Int))) ≤ (a0.size : Int) then (some (a0.extract 0 ((wrap64 ((a0.size : Int) - (a1.size : Int))) : Int).toNat, true)) else (none)) else (none)) else (some (a0, false)))
set_option maxHeartbeats 8000000 in
set_option maxRecDepth 100000 in
theorem stringslite_CutSuffix.calls (a0 : ByteArray) (a1 : ByteArray) (r1 : ByteArray) (r2 : Bool) (w : World) (h : stringslite_CutSuffix.f a0 a1 = some (r1, r2)) :
    Calls Tryd.prog 82 #[.string a0, .string a1] w fun e w' => e = .returned (.tuple #[.string r1, .bool r2]) ∧ Drawn0 w w' := by
  have H : ((stringslite_HasSuffix.f a0 a1).bind fun t128 => (if t128 = true then (if 0 ≤ (wrap64 ((a0.size : Int) - (a1.size : Int))) then (if (wrap64 ((a0.size : Int) - (a1.size : Int))) ≤ (a0.size : Int) then (some (a0.extract 0 ((wrap64 ((a0.size : Int) - (a1.size : Int))) : Int).toNat, true)) else (none)) else (none)) else (some (a0, false)))) = some (r1, r2) := h
  clear h
  replace H := Option.bind_eq_some_iff.mp H
  obtain ⟨t128, A30, H⟩ := H
  replace H : (if t128 = true then (if 0 ≤ (wrap64 ((a0.size : Int) - (a1.size : Int))) then (if (wrap64 ((a0.size : Int) - (a1.size : Int))) ≤ (a0.size : Int) then (some (a0.extract 0 ((wrap64 ((a0.size : Int) - (a1.size : Int))) : Int).toNat, true)) else (none)) else (none)) else (some (a0, false))) = some (r1, r2) := H
  have A3 := Aside0.mk A30
  clear A30
  by_cases c4 : t128 = true
  · subst c4
    have H1 : (if 0 ≤ (wrap64 ((a0.size : Int) - (a1.size : Int))) then (if (wrap64 ((a0.size : Int) - (a1.size : Int))) ≤ (a0.size : Int) then (some (a0.extract 0 ((wrap64 ((a0.size : Int) - (a1.size : Int))) : Int).toNat, true)) else (none)) else (none)) = some (r1, r2) := by rw [if_pos rfl] at H; exact H
    clear H
    have H := H1
    clear H1
    obtain ⟨ji5, hji5⟩ : ∃ j_ : Int, (wrap64 ((a0.size : Int) - (a1.size : Int))) = j_ := ⟨_, rfl⟩
    replace H : (if 0 ≤ (ji5) then (if (ji5) ≤ (a0.size : Int) then (some (a0.extract 0 ((ji5) : Int).toNat, true)) else (none)) else (none)) = some (r1, r2) := by first | (rw [hji5] at H; exact H) | (simp only [hji5] at H ⊢; exact H)
    (try rw [hji5] at A3)
    have hji5w : (IntKind.i64.wrap ((a0.size : Int) - (a1.size : Int))) = ji5 := (i64_w _).trans hji5
    by_cases c6 : 0 ≤ (ji5)
    · rw [if_pos c6] at H
      have c6b0 := eq_true c6
      have c6b1 : decide (0 ≤ (ji5)) = true := decide_eq_true c6
      clear c6
      by_cases c7 : (ji5) ≤ (a0.size : Int)
      · rw [if_pos c7] at H
        have c7b0 := eq_true c7
        have c7b1 : decide ((ji5) ≤ (a0.size : Int)) = true := decide_eq_true c7
        clear c7
        simp only [Option.some.injEq, Prod.mk.injEq] at H
        obtain ⟨rfl, rfl⟩ := H
        go_enter Tryd.func82, Tryd.ntmps82
        go_wp2_with (first | ((with_reducible refine gate_callee (f := 35) rfl ?_); refine goesL_ (some 8) rfl rfl Tryd.func35 (by kernel_rfl) rfl #[.string a0, .string a1] rfl (by (try simp only [List.map_toArray, List.map_cons, List.map_nil]); first | done | rfl | (simp only [List.length_drop, List.length_take]; rfl)) ?_; (with_reducible refine (stringslite_HasSuffix.calls a0 a1 true _ A3.out).mono ?_); rintro e w' ⟨rfl, ⟨nd, rfl⟩⟩; refine ⟨_, rfl, ?_⟩))
        go_ret2
        exact ⟨by first | rfl | (simp [bneNil]; done) | (simp; done) | (simp only [← hji5] <;> (first | rfl | simp)) | (simp [*]; done), by repeat (first | exact Drawn0.refl _ | apply Drawn0.step)⟩
      · rw [if_neg c7] at H
        exact absurd H (by simp)
    · rw [if_neg c6] at H
      exact absurd H (by simp)
  · replace c4 := Bool.eq_false_iff.mpr c4
    subst c4
    have H1 : (some (a0, false)) = some (r1, r2) := by rw [if_neg (show ¬ (false = true) by decide)] at H; exact H
    clear H
    have H := H1
    clear H1
    simp only [Option.some.injEq, Prod.mk.injEq] at H
    obtain ⟨rfl, rfl⟩ := H
    go_enter Tryd.func82, Tryd.ntmps82
    go_wp2_with (first | ((with_reducible refine gate_callee (f := 35) rfl ?_); refine goesL_ (some 8) rfl rfl Tryd.func35 (by kernel_rfl) rfl #[.string a0, .string a1] rfl (by (try simp only [List.map_toArray, List.map_cons, List.map_nil]); first | done | rfl | (simp only [List.length_drop, List.length_take]; rfl)) ?_; (with_reducible refine (stringslite_HasSuffix.calls a0 a1 false _ A3.out).mono ?_); rintro e w' ⟨rfl, ⟨nd, rfl⟩⟩; refine ⟨_, rfl, ?_⟩))
    go_ret2
    exact ⟨by first | rfl | (simp [bneNil]; done) | (simp; done) | (simp [*]; done), by repeat (first | exact Drawn0.refl _ | apply Drawn0.step)⟩

/-! ### strings_CutSuffix: function 60 -/
def strings_CutSuffix.f (a0 : ByteArray) (a1 : ByteArray) : Option (ByteArray × Bool) := (stringslite_CutSuffix.f a0 a1).bind fun bt129 => (some (bt129.1, bt129.2))
set_option maxHeartbeats 8000000 in
set_option maxRecDepth 100000 in
theorem strings_CutSuffix.calls (a0 : ByteArray) (a1 : ByteArray) (r1 : ByteArray) (r2 : Bool) (w : World) (h : strings_CutSuffix.f a0 a1 = some (r1, r2)) :
    Calls Tryd.prog 60 #[.string a0, .string a1] w fun e w' => e = .returned (.tuple #[.string r1, .bool r2]) ∧ Drawn0 w w' := by
  have H : ((stringslite_CutSuffix.f a0 a1).bind fun bt129 => (some (bt129.1, bt129.2))) = some (r1, r2) := h
  clear h
  replace H := Option.bind_eq_some_iff.mp H
  obtain ⟨⟨t129, t130⟩, A30, H⟩ := H
  replace H : (some (t129, t130)) = some (r1, r2) := H
  have A3 := Aside0.mk A30
  clear A30
  simp only [Option.some.injEq, Prod.mk.injEq] at H
  obtain ⟨rfl, rfl⟩ := H
  go_enter Tryd.func60, Tryd.ntmps60
  go_wp2_with (first | ((with_reducible refine gate_callee (f := 82) rfl ?_); refine goesL_ (some 8) rfl rfl Tryd.func82 (by kernel_rfl) rfl #[.string a0, .string a1] rfl (by (try simp only [List.map_toArray, List.map_cons, List.map_nil]); first | done | rfl | (simp only [List.length_drop, List.length_take]; rfl)) ?_; (with_reducible refine (stringslite_CutSuffix.calls a0 a1 t129 t130 _ A3.out).mono ?_); rintro e w' ⟨rfl, ⟨nd, rfl⟩⟩; refine ⟨_, rfl, ?_⟩))
  go_ret2
  exact ⟨by first | rfl | (simp [bneNil]; done) | (simp; done) | (simp [*]; done), by repeat (first | exact Drawn0.refl _ | apply Drawn0.step)⟩

/-! ### slices_Index_string_string: function 61 (by hand) -/
def slices_Index_string_string.f (l0 : List ByteArray) (a1 : ByteArray) : Option Int := some (Lib.idxOfS l0 a1)
theorem slices_Index_string_string.calls (A0 : Option Addr) (c0 : Nat) (l0 : List ByteArray) (a1 : ByteArray) (r : Int) (w : World) (hr0 : Kd.C Kd.string w A0 l0.length l0) (hc0 : l0.length ≤ c0) (h : slices_Index_string_string.f l0 a1 = some r) :
    Calls Tryd.prog 61 #[.slice A0 l0.length c0, .string a1] w fun e w' => e = .returned (.int .i64 r) ∧ Drawn0 w w' := by
  obtain rfl := Option.some.inj h
  by_cases hl : l0 = []
  · subst hl
    refine (Tryd.slices_Index_string_empty A0 c0 a1 w).mono ?_
    rintro e w' ⟨rfl, rfl⟩
    exact ⟨rfl, Drawn0.refl _⟩
  · obtain ⟨bk, o, rfl, hbk, hc⟩ := cells_at hr0 (List.length_pos_iff.2 hl)
    have hrd : ReadsOf Value.string ByteArray.empty w (some ⟨bk, o, none⟩) l0.length l0 := Kd.reads_of_C hr0
    refine (Tryd.slices_Index_string bk o l0.length c0 l0 a1 w (Nat.le_refl _) hrd.2.1 (fun j hj => ?_)).mono ?_
    · rw [hc j (l0[j]'hj) (List.getElem?_eq_getElem hj)]
      simp [List.getD, hj]
    · rintro e w' ⟨rfl, rfl⟩
      rw [List.take_of_length_le (Nat.le_refl _)]
      exact ⟨rfl, Drawn0.refl _⟩


/-! ### strings_Trim: function 83 (by hand) -/
def strings_Trim.f (a0 a1 : ByteArray) : Option ByteArray := if a0.size ≤ 9223372036854775807 ∧ a1.size < 4294967281 ∧ (a1.data.toList.all fun b => decide (b.toNat < 128)) = true then some ⟨(Lib.trimS a0.data.toList a1.data.toList).toArray⟩ else none
theorem strings_Trim.calls (a0 a1 : ByteArray) (r : ByteArray) (w : World) (h : strings_Trim.f a0 a1 = some r) :
    Calls Tryd.prog 83 #[.string a0, .string a1] w fun e w' => e = .returned (.string r) ∧ Below w.heap.size w w' := by
  unfold strings_Trim.f at h
  by_cases hc : a0.size ≤ 9223372036854775807 ∧ a1.size < 4294967281 ∧ (a1.data.toList.all fun b => decide (b.toNat < 128)) = true
  · rw [if_pos hc] at h
    obtain rfl := Option.some.inj h
    refine Any.strings_Trim_laid Tryd.lays160 (by kernel_rfl) a0 a1 w hc.1 hc.2.1 (fun j b hj => ?_)
    have := List.all_eq_true.1 hc.2.2 b (List.mem_of_getElem? hj)
    simpa using this
  · rw [if_neg hc] at h; cases h


/-! ### strconv_ParseInt: function 84 (by hand) -/
def strconv_ParseInt.f (a0 : ByteArray) (a1 a2 : Int) : Option (Int × Option Int) := if a1 = 10 ∧ a2 = 64 ∧ a0.size ≤ 100 then (match Lib.parseIntB 64 a0.data.toList with | .ok v => some (v, none) | _ => none) else none
theorem strconv_ParseInt.calls (a0 : ByteArray) (a1 a2 : Int) (r1 : Int) (r2 : Option Int) (w : World) (h : strconv_ParseInt.f a0 a1 a2 = some (r1, r2)) :
    Calls Tryd.prog 84 #[.string a0, .int .i64 a1, .int .i64 a2] w fun e w' => e = .returned (.tuple #[.int .i64 r1, errW r2]) ∧ Below w.heap.size w w' := by
  unfold strconv_ParseInt.f at h
  split at h
  · rename_i hs
    obtain ⟨rfl, rfl, hs⟩ := hs
    split at h
    · rename_i v hv
      simp only [Option.some.injEq, Prod.mk.injEq] at h
      obtain ⟨rfl, rfl⟩ := h
      refine (Tryd.strconv_ParseInt_10_at64_ok a0 (by omega) v hv w).mono ?_
      rintro e w' ⟨rfl, hw⟩
      refine ⟨rfl, ?_⟩
      rcases hw with rfl | ⟨t, rfl⟩
      · exact Below.refl _ _
      · exact bytes_below (Below.refl _ _) (Nat.le_refl _) 5 t
    · cases h
  · cases h


/-! ### stamp_number: function 62 -/
def stamp_number.f (a0 : ByteArray) (a1 : Int) (a2 : Int) : Option (Int) := if (a0.size : Int) < a1 then (some (-1)) else (if (a0.size : Int) > a2 then (some (-1)) else ((strings_Trim.f a0 (⟨#[48, 49, 50, 51, 52, 53, 54, 55, 56, 57]⟩ : ByteArray)).bind fun t131 => (if t131.toList = ([] : List UInt8) then (if (a0.size : Int) > a1 then (if 0 < (a0.size : Int) then (if (bt a0 0) = 48 then (some (-1)) else ((strconv_ParseInt.f a0 10 64).bind fun bt132 => (some bt132.1))) else (none)) else ((strconv_ParseInt.f a0 10 64).bind fun bt134 => (some bt134.1))) else (some (-1)))))
set_option maxHeartbeats 8000000 in
set_option maxRecDepth 100000 in
theorem stamp_number.calls (a0 : ByteArray) (a1 : Int) (a2 : Int) (r : Int) (w : World) (h : stamp_number.f a0 a1 a2 = some r) :
    Calls Tryd.prog 62 #[.string a0, .int .i64 a1, .int .i64 a2] w fun e w' => e = .returned (.int .i64 r) ∧ Below w.heap.size w w' := by
  have HB := Aside0.mk (Below.refl w.heap.size w)
  have H : (if (a0.size : Int) < a1 then (some (-1)) else (if (a0.size : Int) > a2 then (some (-1)) else ((strings_Trim.f a0 (⟨#[48, 49, 50, 51, 52, 53, 54, 55, 56, 57]⟩ : ByteArray)).bind fun t131 => (if t131.toList = ([] : List UInt8) then (if (a0.size : Int) > a1 then (if 0 < (a0.size : Int) then (if (bt a0 0) = 48 then (some (-1)) else ((strconv_ParseInt.f a0 10 64).bind fun bt132 => (some bt132.1))) else (none)) else ((strconv_ParseInt.f a0 10 64).bind fun bt134 => (some bt134.1))) else (some (-1)))))) = some r := h
  clear h
  by_cases c4 : (a0.size : Int) < a1
  · rw [if_pos c4] at H
    have c4b0 : decide ((a0.size : Int) < a1) = true := decide_eq_true c4
    clear c4
    obtain rfl := Option.some.inj H
    go_enter Tryd.func62, Tryd.ntmps62
    go_wp2
    go_ret
    exact ⟨by first | rfl | (simp [bneNil]; done) | (simp [errW_none, errW_some] <;> rfl) | (simp [*, errW_none, errW_some] <;> rfl), by repeat (first | (with_reducible first | exact HB.out | apply below_alloc | apply pw_below_drewN | apply below_drew1) | exact HB.out)⟩
  · rw [if_neg c4] at H
    have c4b0 : decide ((a0.size : Int) < a1) = false := decide_eq_false c4
    clear c4
    by_cases c5 : (a0.size : Int) > a2
    · rw [if_pos c5] at H
      have c5b0 : decide (a2 < (a0.size : Int)) = true := decide_eq_true c5
      clear c5
      obtain rfl := Option.some.inj H
      go_enter Tryd.func62, Tryd.ntmps62
      go_wp2
      go_ret
      exact ⟨by first | rfl | (simp [bneNil]; done) | (simp [errW_none, errW_some] <;> rfl) | (simp [*, errW_none, errW_some] <;> rfl), by repeat (first | (with_reducible first | exact HB.out | apply below_alloc | apply pw_below_drewN | apply below_drew1) | exact HB.out)⟩
    · rw [if_neg c5] at H
      have c5b0 : decide (a2 < (a0.size : Int)) = false := decide_eq_false c5
      clear c5
      replace H := Option.bind_eq_some_iff.mp H
      obtain ⟨t131, A60, H⟩ := H
      replace H : (if t131.toList = ([] : List UInt8) then (if (a0.size : Int) > a1 then (if 0 < (a0.size : Int) then (if (bt a0 0) = 48 then (some (-1)) else ((strconv_ParseInt.f a0 10 64).bind fun bt132 => (some bt132.1))) else (none)) else ((strconv_ParseInt.f a0 10 64).bind fun bt134 => (some bt134.1))) else (some (-1))) = some r := H
      have A6 := Aside0.mk A60
      clear A60
      by_cases c7 : t131.toList = ([] : List UInt8)
      · rw [if_pos c7] at H
        have c7b0 : (t131.toList == ([] : List UInt8)) = true := beq_iff_eq.mpr c7
        have c7b1 : (t131.toList != ([] : List UInt8)) = false := bne_eq_false_iff_eq.mpr c7
        clear c7
        by_cases c8 : (a0.size : Int) > a1
        · rw [if_pos c8] at H
          have c8b0 : decide (a1 < (a0.size : Int)) = true := decide_eq_true c8
          clear c8
          by_cases c9 : 0 < (a0.size : Int)
          · rw [if_pos c9] at H
            have c9b0 : decide (0 < (a0.size : Int)) = true := decide_eq_true c9
            have c9b1 : decide (0 < a0.size) = true := decide_eq_true (by omega)
            clear c9
            by_cases c11 : (bt a0 0) = 48
            · rw [if_pos c11] at H
              have c11b0 : ((bt a0 0) == 48) = true := beq_iff_eq.mpr c11
              have c11b1 : ((bt a0 0) != 48) = false := bne_eq_false_iff_eq.mpr c11
              clear c11
              obtain rfl := Option.some.inj H
              go_enter Tryd.func62, Tryd.ntmps62
              go_wp2_with (first | (go_at_call 83; (with_reducible refine (strings_Trim.calls a0 (⟨#[48, 49, 50, 51, 52, 53, 54, 55, 56, 57]⟩ : ByteArray) t131 _ A6.out).mono ?_); rintro e w12 ⟨rfl, hb⟩; have n0_ := Aside0.mk (below_step (by repeat (first | (with_reducible first | exact HB.out | apply below_alloc | apply pw_below_drewN | apply below_drew1) | exact HB.out)) hb); clear HB; have HB := n0_; clear n0_; (try clear hb); (try clear hb2); (try clear hk); (try clear hi); have p10 : 0 ≤ (0 : Int) := (by omega); have q10 : 0 < a0.size := (by have : (0 : Int) < (a0.size : Int) := of_decide_eq_true (by first | (with_reducible assumption) | assumption); omega); have hx10 : ∀ h : 0 < a0.size, ((a0[0]'h).toNat : Int) = bt a0 0 := bt_at a0 0; clear p10; have qi10 : (0 < (a0.size : Int)) = True := eq_true (of_decide_eq_true (by first | (with_reducible assumption) | assumption)); replace q10 := eq_true q10))
              go_ret
              exact ⟨by first | rfl | (simp [bneNil]; done) | (simp [errW_none, errW_some] <;> rfl) | (simp [*, errW_none, errW_some] <;> rfl), by repeat (first | (with_reducible first | exact HB.out | apply below_alloc | apply pw_below_drewN | apply below_drew1) | exact HB.out)⟩
            · rw [if_neg c11] at H
              have c11b0 : ((bt a0 0) == 48) = false := beq_eq_false_iff_ne.mpr c11
              have c11b1 : ((bt a0 0) != 48) = true := bne_iff_ne.mpr c11
              replace H := Option.bind_eq_some_iff.mp H
              obtain ⟨⟨t132, t133⟩, A130, H⟩ := H
              replace H : (some t132) = some r := H
              have A13 := Aside0.mk A130
              clear A130
              obtain rfl := Option.some.inj H
              go_enter Tryd.func62, Tryd.ntmps62
              go_wp2_with (first | (go_at_call 83; (with_reducible refine (strings_Trim.calls a0 (⟨#[48, 49, 50, 51, 52, 53, 54, 55, 56, 57]⟩ : ByteArray) t131 _ A6.out).mono ?_); rintro e w14 ⟨rfl, hb⟩; have n0_ := Aside0.mk (below_step (by repeat (first | (with_reducible first | exact HB.out | apply below_alloc | apply pw_below_drewN | apply below_drew1) | exact HB.out)) hb); clear HB; have HB := n0_; clear n0_; (try clear hb); (try clear hb2); (try clear hk); (try clear hi); have p10 : 0 ≤ (0 : Int) := (by omega); have q10 : 0 < a0.size := (by have : (0 : Int) < (a0.size : Int) := of_decide_eq_true (by first | (with_reducible assumption) | assumption); omega); have hx10 : ∀ h : 0 < a0.size, ((a0[0]'h).toNat : Int) = bt a0 0 := bt_at a0 0; clear p10; have qi10 : (0 < (a0.size : Int)) = True := eq_true (of_decide_eq_true (by first | (with_reducible assumption) | assumption)); replace q10 := eq_true q10) | ((with_reducible refine gate_callee (f := 84) rfl ?_); refine goesL_ (some 37) rfl rfl Tryd.func84 (by kernel_rfl) rfl #[.string a0, .int .i64 10, .int .i64 64] rfl (by (try simp only [List.map_toArray, List.map_cons, List.map_nil]); first | done | rfl | (simp only [List.length_drop, List.length_take]; rfl)) ?_; (with_reducible refine (strconv_ParseInt.calls a0 10 64 t132 t133 _ A13.out).mono ?_); rintro e w15 ⟨rfl, hb⟩; refine ⟨_, rfl, ?_⟩; have n0_ := Aside0.mk (below_step (by repeat (first | (with_reducible first | exact HB.out | apply below_alloc | apply pw_below_drewN | apply below_drew1) | exact HB.out)) hb); clear HB; have HB := n0_; clear n0_; (try clear hb); (try clear hb2); (try clear hk); (try clear hi); (try simp only [errW_none, errW_some])))
              go_ret
              exact ⟨by first | rfl | (simp [bneNil]; done) | (simp [errW_none, errW_some] <;> rfl) | (simp [*, errW_none, errW_some] <;> rfl), by repeat (first | (with_reducible first | exact HB.out | apply below_alloc | apply pw_below_drewN | apply below_drew1) | exact HB.out)⟩
          · rw [if_neg c9] at H
            exact absurd H (by simp)
        · rw [if_neg c8] at H
          have c8b0 : decide (a1 < (a0.size : Int)) = false := decide_eq_false c8
          clear c8
          replace H := Option.bind_eq_some_iff.mp H
          obtain ⟨⟨t134, t135⟩, A160, H⟩ := H
          replace H : (some t134) = some r := H
          have A16 := Aside0.mk A160
          clear A160
          obtain rfl := Option.some.inj H
          go_enter Tryd.func62, Tryd.ntmps62
          go_wp2_with (first | (go_at_call 83; (with_reducible refine (strings_Trim.calls a0 (⟨#[48, 49, 50, 51, 52, 53, 54, 55, 56, 57]⟩ : ByteArray) t131 _ A6.out).mono ?_); rintro e w17 ⟨rfl, hb⟩; have n0_ := Aside0.mk (below_step (by repeat (first | (with_reducible first | exact HB.out | apply below_alloc | apply pw_below_drewN | apply below_drew1) | exact HB.out)) hb); clear HB; have HB := n0_; clear n0_; (try clear hb); (try clear hb2); (try clear hk); (try clear hi)) | ((with_reducible refine gate_callee (f := 84) rfl ?_); refine goesL_ (some 37) rfl rfl Tryd.func84 (by kernel_rfl) rfl #[.string a0, .int .i64 10, .int .i64 64] rfl (by (try simp only [List.map_toArray, List.map_cons, List.map_nil]); first | done | rfl | (simp only [List.length_drop, List.length_take]; rfl)) ?_; (with_reducible refine (strconv_ParseInt.calls a0 10 64 t134 t135 _ A16.out).mono ?_); rintro e w18 ⟨rfl, hb⟩; refine ⟨_, rfl, ?_⟩; have n0_ := Aside0.mk (below_step (by repeat (first | (with_reducible first | exact HB.out | apply below_alloc | apply pw_below_drewN | apply below_drew1) | exact HB.out)) hb); clear HB; have HB := n0_; clear n0_; (try clear hb); (try clear hb2); (try clear hk); (try clear hi); (try simp only [errW_none, errW_some])))
          go_ret
          exact ⟨by first | rfl | (simp [bneNil]; done) | (simp [errW_none, errW_some] <;> rfl) | (simp [*, errW_none, errW_some] <;> rfl), by repeat (first | (with_reducible first | exact HB.out | apply below_alloc | apply pw_below_drewN | apply below_drew1) | exact HB.out)⟩
      · rw [if_neg c7] at H
        have c7b0 : (t131.toList == ([] : List UInt8)) = false := beq_eq_false_iff_ne.mpr c7
        have c7b1 : (t131.toList != ([] : List UInt8)) = true := bne_iff_ne.mpr c7
        obtain rfl := Option.some.inj H
        go_enter Tryd.func62, Tryd.ntmps62
        go_wp2_with (first | (go_at_call 83; (with_reducible refine (strings_Trim.calls a0 (⟨#[48, 49, 50, 51, 52, 53, 54, 55, 56, 57]⟩ : ByteArray) t131 _ A6.out).mono ?_); rintro e w19 ⟨rfl, hb⟩; have n0_ := Aside0.mk (below_step (by repeat (first | (with_reducible first | exact HB.out | apply below_alloc | apply pw_below_drewN | apply below_drew1) | exact HB.out)) hb); clear HB; have HB := n0_; clear n0_; (try clear hb); (try clear hb2); (try clear hk); (try clear hi)))
        go_ret
        exact ⟨by first | rfl | (simp [bneNil]; done) | (simp [errW_none, errW_some] <;> rfl) | (simp [*, errW_none, errW_some] <;> rfl), by repeat (first | (with_reducible first | exact HB.out | apply below_alloc | apply pw_below_drewN | apply below_drew1) | exact HB.out)⟩

/-! ### stamp_parts_1: function 64 -/
def stamp_parts_1.f (a0 : Int) : Option (Bool) := some (decide (a0 < 0))
set_option maxHeartbeats 8000000 in
set_option maxRecDepth 100000 in
theorem stamp_parts_1.calls (a0 : Int) (r : Bool) (w : World) (h : stamp_parts_1.f a0 = some r) :
    Calls Tryd.prog 64 #[.int .i64 a0] w fun e w' => e = .returned (.bool r) ∧ Drawn0 w w' := by
  have H : (some (decide (a0 < 0))) = some r := h
  clear h
  obtain rfl := Option.some.inj H
  go_enter Tryd.func64, Tryd.ntmps64
  go_wp2
  go_ret
  exact ⟨by first | rfl | (simp [bneNil]; done) | (simp; done) | (simp [*]; done), by repeat (first | exact Drawn0.refl _ | apply Drawn0.step)⟩

/-! ### slices_ContainsFunc_int64_int64__stamp_parts_1: function 63 with function 64 (by hand) -/
def slices_ContainsFunc_int64_int64__stamp_parts_1.f (l0 : List Int) : Option Bool := anyF (fun x => stamp_parts_1.f x) l0
set_option maxHeartbeats 1000000 in
set_option maxRecDepth 100000 in
theorem slices_ContainsFunc_int64_int64__stamp_parts_1.idx (l : List Int) (r : Bool) (hl : l.length ≤ 9223372036854775807) (A : Option Addr) (c : Nat) (w : World) (hC : ReadsOf (Value.int .i64) (0 : Int) w A l.length l) (h : slices_ContainsFunc_int64_int64__stamp_parts_1.f l = some r) :
    Calls Tryd.prog 85 #[.slice A l.length c, .func (.func 64) #[] #[]] w (IdxPost r w) := by
  have HC := Lib.hid hC
  have h' : Aside0 (anyF (fun x => stamp_parts_1.f x) (l.drop 0) = some r) := ⟨h⟩
  clear hC h
  go_enter Tryd.func85, Tryd.ntmps85
  go_wp2
  go_loopw [8] (fun v8 w' => ∃ j : Nat, v8 = .int .i64 j ∧ j ≤ l.length ∧ Aside0 (anyF (fun x => stamp_parts_1.f x) (l.drop j) = some r) ∧ Aside0 (Below w.heap.size w w')) (fun v8 _ => l.length - (intOf v8).toNat)
  case atStart => exact ⟨0, rfl, Nat.zero_le _, h', ⟨Below.refl _ _⟩⟩
  case round =>
    obtain ⟨j, rfl, hj, Hall, HB⟩ := hrel
    by_cases hlt : j < l.length
    · obtain ⟨ad, hA, hcell⟩ := (HC.out.below HB.out).at_ (j : Int) (by omega) (by omega)
      rw [Int.toNat_natCast] at hcell
      have ex : rdOf (0 : Int) l (j : Int) = l[j]'hlt := by simp [rdOf, hlt]
      rw [ex] at hcell
      clear ex
      have hd := Hall.out
      rw [List.drop_eq_getElem_cons hlt] at hd
      obtain ⟨b, hb, hrest⟩ := anyF_cons hd
      have Hb := Lib.hid hb
      clear hb hd
      obtain ⟨x, hx⟩ : ∃ x : Int, x = l[j]'hlt := ⟨_, rfl⟩
      rw [← hx] at hcell Hb
      clear hx
      rcases hrest with ⟨rfl, hr⟩ | ⟨rfl, hr⟩
      · have Hr := Lib.hid hr
        clear hr
        subst hA
        go_wp2_with (refine ((stamp_parts_1.calls x true _ Hb.out)).mono ?_; rintro e w1 ⟨rfl, hd1⟩; have HB1 := Lib.hid hd1.below; clear hd1)
        go_ret
        refine ⟨(j : Int), rfl, ?_, HB.out.trans (HB1.out.mono HB.out.size)⟩
        rw [Hr.out]
        exact decide_eq_true (by omega)
      · have Hr := Aside0.mk hr
        clear hr
        subst hA
        go_wp2_with (refine ((stamp_parts_1.calls x false _ Hb.out)).mono ?_; rintro e w1 ⟨rfl, hd1⟩; have HB1 := Lib.hid hd1.below; clear hd1)
        go_roundw
        case rel => exact ⟨j + 1, by go_num, hlt, Hr, ⟨HB.out.trans (HB1.out.mono HB.out.size)⟩⟩
        case measure => simp [intOf]; omega
    · go_wp2
      go_ret
      have hd := Hall.out
      rw [List.drop_of_length_le (by omega)] at hd
      have hr : false = r := Option.some.inj hd
      refine ⟨-1, rfl, ?_, HB.out⟩
      rw [← hr]; rfl
set_option maxHeartbeats 1000000 in
set_option maxRecDepth 100000 in
theorem slices_ContainsFunc_int64_int64__stamp_parts_1.calls (A0 : Option Addr) (c0 : Nat) (l0 : List Int) (r : Bool) (w : World) (hr0 : Kd.C (Kd.int .i64) w A0 l0.length l0) (hc0 : l0.length ≤ c0) (h : slices_ContainsFunc_int64_int64__stamp_parts_1.f l0 = some r) :
    Calls Tryd.prog 63 #[.slice A0 l0.length c0, .func (.func 64) #[] #[]] w fun e w' => e = .returned (.bool r) ∧ Below w.heap.size w w' := by
  have hrd : ReadsOf (Value.int .i64) (0 : Int) w A0 l0.length l0 := Kd.reads_of_C hr0
  have HI := Lib.hid (slices_ContainsFunc_int64_int64__stamp_parts_1.idx l0 r hrd.2.1 A0 c0 w hrd h)
  clear hrd hr0 h
  go_enter Tryd.func63, Tryd.ntmps63
  go_wp2_with (go_at_call 85; refine HI.out.mono ?_; rintro e w1 ⟨i, rfl, hi, hb⟩; have HB1 := Lib.hid hb; clear hb; have Hi := Lib.hid hi; clear hi)
  go_ret
  exact ⟨by have hi := Hi.out; simp [hi], HB1.out⟩


end Go.Proofs.YtoigafnaoaafeaaDoor.Q
end
section
namespace Go.Proofs.YtoigafnaoaafeaaDoor.Q
open Go.RowKit Go.Proofs.YtoigafnaoaafeaaDoorW.PrintWords Go.Proofs.YtoigafnaoaafeaaDoorW.PrintLast Go.Proofs.YtoigafnaoaafeaaDoorW.PrintMore
attribute [local go_sem] max2_int min2_int max_two min_two max_three min_three max_four min_four   -- for this text's walks alone
set_option linter.unusedVariables false
set_option linter.unusedSimpArgs false

/-! ### stamp_parts: function 44 -/
mutual
def stamp_parts.j0 : Nat → List ByteArray → Bool → Int → Int → Int → Int → Int → Int → Int → Option (Int × Int × Int × Int × Int × Int × Int × Bool)
 | 0, _, _, _, _, _, _, _, _, _ => none
 | k + 1, x5, x19, x138000, x138001, x138002, x138003, x138004, x138005, x138006 => if x19 = true then (some (x138000, x138001, x138002, x138003, x138004, x138005, x138006, false)) else (if 4 < (x5.length : Int) then ((strings_Split.f (rdOf ByteArray.empty x5 4) (⟨#[58]⟩ : ByteArray)).bind fun t143 => (if 0 < (x5.length : Int) then ((strings_CutSuffix.f (rdOf ByteArray.empty x5 0) (⟨#[44]⟩ : ByteArray)).bind fun bt147 => (if (t143.length : Int) = 3 then (stamp_parts.j1 k x5 t143 bt147.1 (!bt147.2) x138000 x138001 x138002 x138003 x138004 x138005 x138006) else (stamp_parts.j1 k x5 t143 bt147.1 true x138000 x138001 x138002 x138003 x138004 x138005 x138006))) else (none))) else (none))
def stamp_parts.j1 : Nat → List ByteArray → List ByteArray → ByteArray → Bool → Int → Int → Int → Int → Int → Int → Int → Option (Int × Int × Int × Int × Int × Int × Int × Bool)
 | 0, _, _, _, _, _, _, _, _, _, _, _ => none
 | k + 1, x5, x6, x7, x38, x138000, x138001, x138002, x138003, x138004, x138005, x138006 => if x38 = true then (some (x138000, x138001, x138002, x138003, x138004, x138005, x138006, false)) else ((slices_Index_string_string.f wdT x7).bind fun t149 => (if 1 < (x5.length : Int) then ((stamp_number.f (rdOf ByteArray.empty x5 1) 2 2).bind fun t151 => (if 2 < (x5.length : Int) then ((slices_Index_string_string.f moT (rdOf ByteArray.empty x5 2)).bind fun t153 => (if 3 < (x5.length : Int) then ((stamp_number.f (rdOf ByteArray.empty x5 3) 4 10).bind fun t155 => (if 0 < (x6.length : Int) then ((stamp_number.f (rdOf ByteArray.empty x6 0) 2 2).bind fun t157 => (if 1 < (x6.length : Int) then ((stamp_number.f (rdOf ByteArray.empty x6 1) 2 2).bind fun t159 => (if 2 < (x6.length : Int) then ((stamp_number.f (rdOf ByteArray.empty x6 2) 2 2).bind fun t161 => ((slices_ContainsFunc_int64_int64__stamp_parts_1.f [t149, t151, t153, t155, t157, t159, t161]).bind fun t162 => (some (t149, t151, t153, t155, t157, t159, t161, !t162)))) else (none))) else (none))) else (none))) else (none))) else (none))) else (none)))
end
def stamp_parts.f (k : Nat) (a0 : ByteArray) : Option (Int × Int × Int × Int × Int × Int × Int × Bool) := (strings_Split.f a0 (⟨#[32]⟩ : ByteArray)).bind fun t138 => (if (t138.length : Int) = 6 then (if 5 < (t138.length : Int) then (stamp_parts.j0 k t138 ((rdOf ByteArray.empty t138 5).toList != ([43, 48, 48, 48, 48] : List UInt8)) 0 0 0 0 0 0 0) else (none)) else (stamp_parts.j0 k t138 true 0 0 0 0 0 0 0))
theorem stamp_parts.mono_l : ∀ k, (∀ y0 y1 y2 y3 y4 y5 y6 y7 y8, LeO (stamp_parts.j0 k y0 y1 y2 y3 y4 y5 y6 y7 y8) (stamp_parts.j0 (k + 1) y0 y1 y2 y3 y4 y5 y6 y7 y8)) ∧ (∀ y0 y1 y2 y3 y4 y5 y6 y7 y8 y9 y10, LeO (stamp_parts.j1 k y0 y1 y2 y3 y4 y5 y6 y7 y8 y9 y10) (stamp_parts.j1 (k + 1) y0 y1 y2 y3 y4 y5 y6 y7 y8 y9 y10))
 | 0 => ⟨fun _ _ _ _ _ _ _ _ _ r h => by simp [stamp_parts.j0] at h, fun _ _ _ _ _ _ _ _ _ _ _ r h => by simp [stamp_parts.j1] at h⟩
 | k + 1 => by
  obtain ⟨ih0, ih1⟩ := stamp_parts.mono_l k
  refine ⟨?_, ?_⟩
  ·intro y0 y1 y2 y3 y4 y5 y6 y7 y8
   unfold stamp_parts.j0
   repeat' first
   | (with_reducible exact ih0 _ _ _ _ _ _ _ _ _)
   | (with_reducible exact ih1 _ _ _ _ _ _ _ _ _ _ _)
   | (with_reducible exact LeO.refl _)
   | (with_reducible exact LeO.none _)
   | (with_reducible refine LeO.ite ?_ ?_)
   | (with_reducible refine LeO.bind ?_ (fun _ => ?_))
   | exact ih0 _ _ _ _ _ _ _ _ _
   | exact ih1 _ _ _ _ _ _ _ _ _ _ _
   | exact LeO.none _
   | refine LeO.ite ?_ ?_
   | refine LeO.bind ?_ (fun _ => ?_)
  ·intro y0 y1 y2 y3 y4 y5 y6 y7 y8 y9 y10
   unfold stamp_parts.j1
   repeat' first
   | (with_reducible exact ih0 _ _ _ _ _ _ _ _ _)
   | (with_reducible exact ih1 _ _ _ _ _ _ _ _ _ _ _)
   | (with_reducible exact LeO.refl _)
   | (with_reducible exact LeO.none _)
   | (with_reducible refine LeO.ite ?_ ?_)
   | (with_reducible refine LeO.bind ?_ (fun _ => ?_))
   | exact ih0 _ _ _ _ _ _ _ _ _
   | exact ih1 _ _ _ _ _ _ _ _ _ _ _
   | exact LeO.none _
   | refine LeO.ite ?_ ?_
   | refine LeO.bind ?_ (fun _ => ?_)
theorem stamp_parts.mono : ∀ a0 k, LeO (stamp_parts.f k a0) (stamp_parts.f (k + 1) a0) := by
 intro a0 k
 obtain ⟨ih0, ih1⟩ := stamp_parts.mono_l k
 unfold stamp_parts.f
 repeat' first
   | (with_reducible exact ih0 _ _ _ _ _ _ _ _ _)
   | (with_reducible exact ih1 _ _ _ _ _ _ _ _ _ _ _)
   | (with_reducible exact LeO.refl _)
   | (with_reducible exact LeO.none _)
   | (with_reducible refine LeO.ite ?_ ?_)
   | (with_reducible refine LeO.bind ?_ (fun _ => ?_))
   | exact ih0 _ _ _ _ _ _ _ _ _
   | exact ih1 _ _ _ _ _ _ _ _ _ _ _
   | exact LeO.none _
   | refine LeO.ite ?_ ?_
   | refine LeO.bind ?_ (fun _ => ?_)
def stamp_parts.T9 : Bool × List (List Nat × List Nat) := (true, [([], []), ([], []), ([0, 1], [0, 1]), ([], []), ([3], [3]), ([4], [4]), ([5, 2], [5]), ([], []), ([], []), ([8], [8]), ([9], [9]), ([7, 10, 6], [7, 10]), ([], []), ([12], [12]), ([13], [13]), ([14, 11], [14]), ([], []), ([16], [16]), ([17], [17]), ([18, 15], [18]), ([], []), ([20], [20]), ([21], [21]), ([22, 19], [22]), ([], []), ([24], [24]), ([25], [25]), ([26, 23], [26]), ([2, 6, 11, 15, 19, 23, 27], [2, 6, 11, 15, 19, 23, 27]), ([28, 27, 0, 1, 2, 3, 4, 5, 6, 7, 8, 9, 10, 11, 12, 13, 14, 15, 16, 17, 18, 19, 20, 21, 22, 23, 24, 25, 26, 27, 28], [28])])
def stamp_parts.B9 : List Nat := [0, 0, 3, 0, 8, 24, 63, 0, 0, 256, 768, 2047, 0, 4096, 12288, 32767, 0, 65536, 196608, 524287, 0, 1048576, 3145728, 8388607, 0, 16777216, 50331648, 134217727, 268435455, 536870911]
theorem stamp_parts.tab9 : rtab .any (opsOf Tryd.f44 9) = stamp_parts.T9 := by kernel_rfl
theorem stamp_parts.bits9 : waitsOk stamp_parts.T9.2 stamp_parts.B9 = true := by kernel_rfl
set_option maxHeartbeats 8000000 in
set_option maxRecDepth 100000 in
theorem stamp_parts.calls (k : Nat) (a0 : ByteArray) (r1 : Int) (r2 : Int) (r3 : Int) (r4 : Int) (r5 : Int) (r6 : Int) (r7 : Int) (r8 : Bool) (w : World) (hG : Glob w) (h : stamp_parts.f k a0 = some (r1, r2, r3, r4, r5, r6, r7, r8)) :
  Calls Tryd.prog 44 #[.string a0] w fun e w' => e = .returned (.tuple #[.agg #[.int .i64 r1, .int .i64 r2, .int .i64 r3, .int .i64 r4, .int .i64 r5, .int .i64 r6, .int .i64 r7], .bool r8]) ∧ Below w.heap.size w w' := by
 have hu70 := Tryd.underlying70
 have HB := Aside0.mk (Below.refl w.heap.size w)
 have HG := Aside0.mk hG
 have HRG0 := Aside0.mk hG.c0
 have HRG1 := Aside0.mk hG.c1
 clear hG
 have H : ((strings_Split.f a0 (⟨#[32]⟩ : ByteArray)).bind fun t138 => (if (t138.length : Int) = 6 then (if 5 < (t138.length : Int) then (stamp_parts.j0 k t138 ((rdOf ByteArray.empty t138 5).toList != ([43, 48, 48, 48, 48] : List UInt8)) 0 0 0 0 0 0 0) else (none)) else (stamp_parts.j0 k t138 true 0 0 0 0 0 0 0))) = some (r1, r2, r3, r4, r5, r6, r7, r8) := h
 clear h
 replace H := Option.bind_eq_some_iff.mp H
 obtain ⟨t138, A20, H⟩ := H
 replace H : (if (t138.length : Int) = 6 then (if 5 < (t138.length : Int) then (stamp_parts.j0 k t138 ((rdOf ByteArray.empty t138 5).toList != ([43, 48, 48, 48, 48] : List UInt8)) 0 0 0 0 0 0 0) else (none)) else (stamp_parts.j0 k t138 true 0 0 0 0 0 0 0)) = some (r1, r2, r3, r4, r5, r6, r7, r8) := H
 have A2 := Aside0.mk A20
 clear A20
 have HC3 := Aside0.mk H
 clear H
 go_enter Tryd.func44, Tryd.ntmps44
 go_upto_region 3 with (first | ((with_reducible refine gate_dst (N := 2) rfl ?_); refine box_event ?hg (N := 2) ?hd (cs := #[.int .i64 0, .int .i64 0, .int .i64 0, .int .i64 0, .int .i64 0, .int .i64 0, .int .i64 0]) (t := 70) ?hr ?_; (case hd => rfl); (case hg => rfl); (case hr => first | (go_simp; done) | (go_simp; rfl)); intro gb136 hg w4 hbox hb; have n0_ := Aside0.mk (below_step bl hb); have n1_ := Aside0.mk (hbox); have n2_ := Aside0.mk ((by rw [hg]; exact (below_size bl) : w.heap.size ≤ gb136)); have n3_ := Aside0.mk ((by rw [hg]; exact (below_size bl) : w.heap.size ≤ gb136)); clear HB; have HB := n0_; have BK136 := n1_; have GW136 := n2_; have GE136 := n3_; clear n0_ n1_ n2_ n3_; clear hb hbox hg) | ((with_reducible refine gate_dst (N := 4) rfl ?_); refine box_event ?hg (N := 4) ?hd (cs := #[.int .i64 0, .int .i64 0, .int .i64 0, .int .i64 0, .int .i64 0, .int .i64 0, .int .i64 0]) (t := 70) ?hr ?_; (case hd => rfl); (case hg => rfl); (case hr => first | (go_simp; done) | (go_simp; rfl)); intro gb137 hg w5 hbox hb; have n0_ := Aside0.mk (kb BK136.out hb); have n1_ := Aside0.mk (below_step bl hb); have n2_ := Aside0.mk (hbox); have n3_ := Aside0.mk ((by rw [hg]; exact (below_size bl) : w.heap.size ≤ gb137)); have n4_ := Aside0.mk ((by rw [hg]; exact (below_size bl) : w.heap.size ≤ gb137)); have n5_ := Aside0.mk ((by rw [hg]; exact Nat.ne_of_lt (blk_lt (bk BK136.out)) : gb136 ≠ gb137)); have n6_ := Aside0.mk ((by rw [hg]; exact Nat.ne_of_gt (blk_lt (bk BK136.out)) : gb137 ≠ gb136)); clear BK136; clear HB; have BK136 := n0_; have HB := n1_; have BK137 := n2_; have GW137 := n3_; have GE137 := n4_; have NB136_137 := n5_; have NB137_136 := n6_; clear n0_ n1_ n2_ n3_ n4_ n5_ n6_; clear hb hbox hg) | ((with_reducible refine gate_callee (f := 59) rfl ?_); refine goesL_ (some 10) rfl rfl Tryd.func59 (by kernel_rfl) rfl #[.string a0, .string (⟨#[32]⟩ : ByteArray)] rfl ml ?_; (with_reducible refine (strings_Split.calls a0 (⟨#[32]⟩ : ByteArray) t138 _ ?side1 A2.out).mono ?_); (case side1 => exact Glob.below HG.out bl); rintro e w6 ⟨v139, rfl, ho0, hb⟩; refine ⟨_, rfl, ?_⟩; have n0_ := Aside0.mk (Kd.R_lower ho0 (below_size bl)); have n1_ := Aside0.mk (kb BK136.out hb); have n2_ := Aside0.mk (kb BK137.out hb); have n3_ := Aside0.mk (below_step bl hb); clear BK136; clear BK137; clear HB; have HO140 := n0_; have BK136 := n1_; have BK137 := n2_; have HB := n3_; clear n0_ n1_ n2_ n3_; (try clear hb); (try clear hb2); (try clear hk); (try clear hi); (try clear ho0)))
 (try simp only [Act.put, List.setIfInBounds_toArray, List.set_cons_zero, List.set_cons_succ])
 go_cut [19] (fun v19 wc => ∃ (kq : Nat) (x19_2 : Bool), v19 = .bool x19_2 ∧ Aside0 (stamp_parts.j0 kq t138 x19_2 0 0 0 0 0 0 0 = some (r1, r2, r3, r4, r5, r6, r7, r8)) ∧ Aside0 (kq ≤ k) ∧ Aside0 (Kd.R Kd.string 9 wc w.heap.size (fun _ => True) v139 t138) ∧ Aside0 (wc.heap[gb136]? = some (.cells #[.int .i64 0, .int .i64 0, .int .i64 0, .int .i64 0, .int .i64 0, .int .i64 0, .int .i64 0] 70 (0, 0))) ∧ Aside0 (wc.heap[gb137]? = some (.cells #[.int .i64 0, .int .i64 0, .int .i64 0, .int .i64 0, .int .i64 0, .int .i64 0, .int .i64 0] 70 (0, 0))) ∧ Aside0 (Below w.heap.size w wc))
 case first =>
  have H := HC3.out
  clear HC3
  by_cases c7 : (t138.length : Int) = 6
  ·rw [if_pos c7] at H
   have c7b0 : ((t138.length : Int) == 6) = true := beq_iff_eq.mpr c7
   have c7b1 : ((t138.length : Int) != 6) = false := bne_eq_false_iff_eq.mpr c7
   clear c7
   (first | rw [c7b0] | (simp only [i64_w, i32_w]; rw [c7b0]) | skip)
   by_cases c8 : 5 < (t138.length : Int)
   ·rw [if_pos c8] at H
    have c8b0 : decide (5 < (t138.length : Int)) = true := decide_eq_true c8
    have c8b1 : decide (5 < t138.length) = true := decide_eq_true (by omega)
    clear c8
    have H' := Aside0.mk H
    clear H
    obtain ⟨Ao9, co9, eo9⟩ := Kd.R_slice HO140.out
    subst eo9
    have p141 : 0 ≤ (5 : Int) := (by omega)
    have q141 : 5 < (t138.length : Int) := od
    obtain ⟨ad141, e141, hx141_0⟩ := Kd.at_string (Kd.R_reads' HO140.out).2.2 5 p141 q141
    cases e141
    (try simp only [show (5 : Int).toNat = 5 from rfl, Nat.reduceMul, Nat.reduceEqDiff, Go.Addr.add, ↓reduceIte] at hx141_0)
    have qi141 : (5 < t138.length) = True := eq_true (by omega)
    (try rw [show ((5 : Int)).toNat = 5 from rfl] at hx141_0)
    replace p141 := eq_true p141
    replace q141 := eq_true q141
    go_wp2
    go_meet
    case rel => exact ⟨_, (((rdOf ByteArray.empty t138 5).toList != ([43, 48, 48, 48, 48] : List UInt8))), (by first | rfl | (simp; done) | (simp [*]; done)), H', ⟨by first | omega | exact Nat.le_refl _⟩, ⟨by (with_reducible repeat (first | apply Kd.R_alloc | apply Kd.R_drewN | apply Kd.R_drew)); exact HO140.out⟩, ⟨by (with_reducible repeat (first | refine blk_drewN ?_ _ | refine blk_drew ?_ | refine blk_alloc ?_ _)); exact BK136.out⟩, ⟨by (with_reducible repeat (first | refine blk_drewN ?_ _ | refine blk_drew ?_ | refine blk_alloc ?_ _)); exact BK137.out⟩, ⟨by repeat (first | (with_reducible first | exact HB.out | apply below_alloc | apply pw_below_drewN | apply below_drew1 | refine below_set ?_ GE136.out | refine below_set ?_ GE137.out) | exact HB.out)⟩⟩
   ·rw [if_neg c8] at H
    exact absurd H (by simp)
  ·rw [if_neg c7] at H
   have c7b0 : ((t138.length : Int) == 6) = false := beq_eq_false_iff_ne.mpr c7
   have c7b1 : ((t138.length : Int) != 6) = true := bne_iff_ne.mpr c7
   (first | rw [c7b0] | (simp only [i64_w, i32_w]; rw [c7b0]) | skip)
   have H' := Aside0.mk H
   clear H
   obtain ⟨Ao10, co10, eo10⟩ := Kd.R_slice HO140.out
   subst eo10
   go_wp2
   go_meet
   case rel => exact ⟨_, (true), (by first | rfl | (simp; done) | (simp [*]; done)), H', ⟨by first | omega | exact Nat.le_refl _⟩, ⟨by (with_reducible repeat (first | apply Kd.R_alloc | apply Kd.R_drewN | apply Kd.R_drew)); exact HO140.out⟩, ⟨by (with_reducible repeat (first | refine blk_drewN ?_ _ | refine blk_drew ?_ | refine blk_alloc ?_ _)); exact BK136.out⟩, ⟨by (with_reducible repeat (first | refine blk_drewN ?_ _ | refine blk_drew ?_ | refine blk_alloc ?_ _)); exact BK137.out⟩, ⟨by repeat (first | (with_reducible first | exact HB.out | apply below_alloc | apply pw_below_drewN | apply below_drew1 | refine below_set ?_ GE136.out | refine below_set ?_ GE137.out) | exact HB.out)⟩⟩
 case rest =>
  clear HC3
  try clear c1
  try clear p1
  try clear q1
  try clear hx1
  try clear qi1
  try clear p2
  try clear c4
  try clear c5
  try clear c7
  try clear c7b0
  try clear c7b1
  try clear c8
  try clear c8b0
  try clear c8b1
  try clear hx141_0
  try clear p141
  try clear q141
  obtain ⟨kq, x19_2, rfl, HA, HJ2, HO_5, BK136, BK137, HB⟩ := hcut
  cases kq with
  | zero => exact absurd HA.out (by simp [stamp_parts.j0])
  | succ kj2 =>
   have H := HA.out
   clear HA
   simp only [stamp_parts.j0] at H
   by_cases c11 : x19_2 = true
   ·subst c11
    have H1 : (some (0, 0, 0, 0, 0, 0, 0, false)) = some (r1, r2, r3, r4, r5, r6, r7, r8) := by rw [if_pos rfl] at H; exact H
    clear H
    have H := H1
    clear H1
    simp only [Option.some.injEq, Prod.mk.injEq] at H
    obtain ⟨rfl, rfl, rfl, rfl, rfl, rfl, rfl, rfl⟩ := H
    have hnb12 := NB137_136.out
    have hnc12 := NB136_137.out
    have hcz13_0 : wc.cell? ⟨gb137, 0, none⟩ = some (.int .i64 0) := (blk_cell BK137.out 0).trans rfl
    have hcz13_1 : wc.cell? ⟨gb137, 1, none⟩ = some (.int .i64 0) := (blk_cell BK137.out 1).trans rfl
    have hcz13_2 : wc.cell? ⟨gb137, 2, none⟩ = some (.int .i64 0) := (blk_cell BK137.out 2).trans rfl
    have hcz13_3 : wc.cell? ⟨gb137, 3, none⟩ = some (.int .i64 0) := (blk_cell BK137.out 3).trans rfl
    have hcz13_4 : wc.cell? ⟨gb137, 4, none⟩ = some (.int .i64 0) := (blk_cell BK137.out 4).trans rfl
    have hcz13_5 : wc.cell? ⟨gb137, 5, none⟩ = some (.int .i64 0) := (blk_cell BK137.out 5).trans rfl
    have hcz13_6 : wc.cell? ⟨gb137, 6, none⟩ = some (.int .i64 0) := (blk_cell BK137.out 6).trans rfl
    have hfz13_0 := blk_frozen BK137.out 0
    have hfz13_1 := blk_frozen BK137.out 1
    have hfz13_2 := blk_frozen BK137.out 2
    have hfz13_3 := blk_frozen BK137.out 3
    have hfz13_4 := blk_frozen BK137.out 4
    have hfz13_5 := blk_frozen BK137.out 5
    have hfz13_6 := blk_frozen BK137.out 6
    have hcz14_0 : wc.cell? ⟨gb136, 0, none⟩ = some (.int .i64 0) := (blk_cell BK136.out 0).trans rfl
    have hcz14_1 : wc.cell? ⟨gb136, 1, none⟩ = some (.int .i64 0) := (blk_cell BK136.out 1).trans rfl
    have hcz14_2 : wc.cell? ⟨gb136, 2, none⟩ = some (.int .i64 0) := (blk_cell BK136.out 2).trans rfl
    have hcz14_3 : wc.cell? ⟨gb136, 3, none⟩ = some (.int .i64 0) := (blk_cell BK136.out 3).trans rfl
    have hcz14_4 : wc.cell? ⟨gb136, 4, none⟩ = some (.int .i64 0) := (blk_cell BK136.out 4).trans rfl
    have hcz14_5 : wc.cell? ⟨gb136, 5, none⟩ = some (.int .i64 0) := (blk_cell BK136.out 5).trans rfl
    have hcz14_6 : wc.cell? ⟨gb136, 6, none⟩ = some (.int .i64 0) := (blk_cell BK136.out 6).trans rfl
    have hfz14_0 := blk_frozen BK136.out 0
    have hfz14_1 := blk_frozen BK136.out 1
    have hfz14_2 := blk_frozen BK136.out 2
    have hfz14_3 := blk_frozen BK136.out 3
    have hfz14_4 := blk_frozen BK136.out 4
    have hfz14_5 := blk_frozen BK136.out 5
    have hfz14_6 := blk_frozen BK136.out 6
    go_wp2
    refine bodyPost_ret (results_ct rfl _ _ gb136 70 #[.int .i64 0, .int .i64 0, .int .i64 0, .int .i64 0, .int .i64 0, .int .i64 0, .int .i64 0] (0, 0) _ rfl (by (with_reducible repeat (first | refine blk_drewN ?_ _ | refine blk_drew ?_ | refine blk_alloc ?_ _)); refine blk_put (cs := #[.int .i64 0, .int .i64 0, .int .i64 0, .int .i64 0, .int .i64 0, .int .i64 0, .int .i64 0]) ?_ 6 _ rfl; (with_reducible repeat (first | refine blk_drewN ?_ _ | refine blk_drew ?_ | refine blk_alloc ?_ _)); refine blk_put (cs := #[.int .i64 0, .int .i64 0, .int .i64 0, .int .i64 0, .int .i64 0, .int .i64 0, .int .i64 0]) ?_ 5 _ rfl; (with_reducible repeat (first | refine blk_drewN ?_ _ | refine blk_drew ?_ | refine blk_alloc ?_ _)); refine blk_put (cs := #[.int .i64 0, .int .i64 0, .int .i64 0, .int .i64 0, .int .i64 0, .int .i64 0, .int .i64 0]) ?_ 4 _ rfl; (with_reducible repeat (first | refine blk_drewN ?_ _ | refine blk_drew ?_ | refine blk_alloc ?_ _)); refine blk_put (cs := #[.int .i64 0, .int .i64 0, .int .i64 0, .int .i64 0, .int .i64 0, .int .i64 0, .int .i64 0]) ?_ 3 _ rfl; (with_reducible repeat (first | refine blk_drewN ?_ _ | refine blk_drew ?_ | refine blk_alloc ?_ _)); refine blk_put (cs := #[.int .i64 0, .int .i64 0, .int .i64 0, .int .i64 0, .int .i64 0, .int .i64 0, .int .i64 0]) ?_ 2 _ rfl; (with_reducible repeat (first | refine blk_drewN ?_ _ | refine blk_drew ?_ | refine blk_alloc ?_ _)); refine blk_put (cs := #[.int .i64 0, .int .i64 0, .int .i64 0, .int .i64 0, .int .i64 0, .int .i64 0, .int .i64 0]) ?_ 1 _ rfl; (with_reducible repeat (first | refine blk_drewN ?_ _ | refine blk_drew ?_ | refine blk_alloc ?_ _)); refine blk_put (cs := #[.int .i64 0, .int .i64 0, .int .i64 0, .int .i64 0, .int .i64 0, .int .i64 0, .int .i64 0]) ?_ 0 _ rfl; (with_reducible repeat (first | refine blk_drewN ?_ _ | refine blk_drew ?_ | refine blk_alloc ?_ _)); exact BK136.out) Tryd.underlying70 rfl (by kernel_rfl)) rfl ?_
    exact ⟨by first | rfl | (simp [bneNil]; done) | (simp [errW_none, errW_some] <;> rfl) | (simp [*, errW_none, errW_some] <;> rfl), by repeat (first | (with_reducible first | exact HB.out | apply below_alloc | apply pw_below_drewN | apply below_drew1 | refine below_set ?_ GE136.out | refine below_set ?_ GE137.out) | exact HB.out)⟩
   ·replace c11 := Bool.eq_false_iff.mpr c11
    subst c11
    have H1 : (if 4 < (t138.length : Int) then ((strings_Split.f (rdOf ByteArray.empty t138 4) (⟨#[58]⟩ : ByteArray)).bind fun t143 => (if 0 < (t138.length : Int) then ((strings_CutSuffix.f (rdOf ByteArray.empty t138 0) (⟨#[44]⟩ : ByteArray)).bind fun bt147 => (if (t143.length : Int) = 3 then (stamp_parts.j1 kj2 t138 t143 bt147.1 (!bt147.2) 0 0 0 0 0 0 0) else (stamp_parts.j1 kj2 t138 t143 bt147.1 true 0 0 0 0 0 0 0))) else (none))) else (none)) = some (r1, r2, r3, r4, r5, r6, r7, r8) := by rw [if_neg (show ¬ (false = true) by decide)] at H; exact H
    clear H
    have H := H1
    clear H1
    by_cases c15 : 4 < (t138.length : Int)
    ·rw [if_pos c15] at H
     have c15b0 : decide (4 < (t138.length : Int)) = true := decide_eq_true c15
     have c15b1 : decide (4 < t138.length) = true := decide_eq_true (by omega)
     clear c15
     replace H := Option.bind_eq_some_iff.mp H
     obtain ⟨t143, A160, H⟩ := H
     replace H : (if 0 < (t138.length : Int) then ((strings_CutSuffix.f (rdOf ByteArray.empty t138 0) (⟨#[44]⟩ : ByteArray)).bind fun bt147 => (if (t143.length : Int) = 3 then (stamp_parts.j1 kj2 t138 t143 bt147.1 (!bt147.2) 0 0 0 0 0 0 0) else (stamp_parts.j1 kj2 t138 t143 bt147.1 true 0 0 0 0 0 0 0))) else (none)) = some (r1, r2, r3, r4, r5, r6, r7, r8) := H
     have A16 := Aside0.mk A160
     clear A160
     by_cases c17 : 0 < (t138.length : Int)
     ·rw [if_pos c17] at H
      have c17b0 : decide (0 < (t138.length : Int)) = true := decide_eq_true c17
      have c17b1 : decide (0 < t138.length) = true := decide_eq_true (by omega)
      clear c17
      replace H := Option.bind_eq_some_iff.mp H
      obtain ⟨⟨t147, t148⟩, A180, H⟩ := H
      replace H : (if (t143.length : Int) = 3 then (stamp_parts.j1 kj2 t138 t143 t147 (!t148) 0 0 0 0 0 0 0) else (stamp_parts.j1 kj2 t138 t143 t147 true 0 0 0 0 0 0 0)) = some (r1, r2, r3, r4, r5, r6, r7, r8) := H
      have A18 := Aside0.mk A180
      clear A180
      have HC19 := Aside0.mk H
      clear H
      obtain ⟨Ao20, co20, eo20⟩ := Kd.R_slice HO_5.out
      subst eo20
      have p142 : 0 ≤ (4 : Int) := (by omega)
      have q142 : 4 < (t138.length : Int) := od
      obtain ⟨ad142, e142, hx142_0⟩ := Kd.at_string (Kd.R_reads' HO_5.out).2.2 4 p142 q142
      cases e142
      (try simp only [show (4 : Int).toNat = 4 from rfl, Nat.reduceMul, Nat.reduceEqDiff, Go.Addr.add, ↓reduceIte] at hx142_0)
      have qi142 : (4 < t138.length) = True := eq_true (by omega)
      (try rw [show ((4 : Int)).toNat = 4 from rfl] at hx142_0)
      replace p142 := eq_true p142
      replace q142 := eq_true q142
      go_upto_region 7 with (first | ((with_reducible refine gate_callee (f := 59) rfl ?_); refine goesL_ (some 24) rfl rfl Tryd.func59 (by kernel_rfl) rfl #[.string (rdOf ByteArray.empty t138 4), .string (⟨#[58]⟩ : ByteArray)] rfl ml ?_; (with_reducible refine (strings_Split.calls (rdOf ByteArray.empty t138 4) (⟨#[58]⟩ : ByteArray) t143 _ ?side1 A16.out).mono ?_); (case side1 => exact Glob.below HG.out bl); rintro e w21 ⟨v144, rfl, ho0, hb⟩; refine ⟨_, rfl, ?_⟩; have n0_ := Aside0.mk (Kd.R_elder' (kr HO_5.out) (Kd.R_base ho0) hb); have n1_ := Aside0.mk (Kd.R_lower (Kd.R_new' ho0 (Kd.R_lt (kr HO_5.out))) (below_size bl)); have n2_ := Aside0.mk (kb BK136.out hb); have n3_ := Aside0.mk (kb BK137.out hb); have n4_ := Aside0.mk (below_step bl hb); clear HO_5; clear BK136; clear BK137; clear HB; have HO_5 := n0_; have HO145 := n1_; have BK136 := n2_; have BK137 := n3_; have HB := n4_; clear n0_ n1_ n2_ n3_ n4_; (try clear hb); (try clear hb2); (try clear hk); (try clear hi); (try clear ho0); have p146 : 0 ≤ (0 : Int) := (by omega); have q146 : 0 < (t138.length : Int) := od; obtain ⟨ad146, e146, hx146_0⟩ := Kd.at_string (Kd.R_reads' HO_5.out).2.2 0 p146 q146; obtain rfl : ad142 = ad146 := (by injection e146); have qi146 : (0 < t138.length) = True := eq_true (by omega); (try rw [show ((0 : Int)).toNat = 0 from rfl] at hx146_0); (try rw [Addr.add_zero'] at hx146_0); replace p146 := eq_true p146; replace q146 := eq_true q146) | ((with_reducible refine gate_callee (f := 60) rfl ?_); refine goesL_ (some 29) rfl rfl Tryd.func60 (by kernel_rfl) rfl #[.string (rdOf ByteArray.empty t138 0), .string (⟨#[44]⟩ : ByteArray)] rfl ml ?_; (with_reducible refine (strings_CutSuffix.calls (rdOf ByteArray.empty t138 0) (⟨#[44]⟩ : ByteArray) t147 t148 _ A18.out).mono ?_); rintro e w' ⟨rfl, ⟨nd, rfl⟩⟩; refine ⟨_, rfl, ?_⟩))
      (try simp only [Act.put, List.setIfInBounds_toArray, List.set_cons_zero, List.set_cons_succ])
      go_cut [38] (fun v38 wc => ∃ (kq : Nat) (x38_18 : Bool), v38 = .bool x38_18 ∧ Aside0 (stamp_parts.j1 kq t138 t143 t147 x38_18 0 0 0 0 0 0 0 = some (r1, r2, r3, r4, r5, r6, r7, r8)) ∧ Aside0 (kq ≤ kj2) ∧ Aside0 (Kd.R Kd.string 9 wc w.heap.size (fun k_ => some k_ ≠ (v144 : Value).ownBlock) (.slice (some ad142) t138.length co20) t138) ∧ Aside0 (Kd.R Kd.string 9 wc w.heap.size (fun k_ => some k_ ≠ ((.slice (some ad142) t138.length co20) : Value).ownBlock) v144 t143) ∧ Aside0 (wc.heap[gb136]? = some (.cells #[.int .i64 0, .int .i64 0, .int .i64 0, .int .i64 0, .int .i64 0, .int .i64 0, .int .i64 0] 70 (0, 0))) ∧ Aside0 (wc.heap[gb137]? = some (.cells #[.int .i64 0, .int .i64 0, .int .i64 0, .int .i64 0, .int .i64 0, .int .i64 0, .int .i64 0] 70 (0, 0))) ∧ Aside0 (Below w.heap.size w wc))
      case first =>
       have H := HC19.out
       clear HC19
       by_cases c22 : (t143.length : Int) = 3
       ·rw [if_pos c22] at H
        have c22b0 : ((t143.length : Int) == 3) = true := beq_iff_eq.mpr c22
        have c22b1 : ((t143.length : Int) != 3) = false := bne_eq_false_iff_eq.mpr c22
        clear c22
        (first | rw [c22b0] | (simp only [i64_w, i32_w]; rw [c22b0]) | skip)
        have H' := Aside0.mk H
        clear H
        obtain ⟨Ao23, co23, eo23⟩ := Kd.R_slice HO145.out
        subst eo23
        go_wp2
        go_meet
        case rel => exact ⟨_, (!t148), (by first | rfl | (simp; done) | (simp [*]; done)), H', ⟨by have := HJ2.out; first | omega | exact Nat.le_refl _⟩, ⟨by (with_reducible repeat (first | apply Kd.R_alloc | apply Kd.R_drewN | apply Kd.R_drew)); exact Kd.R_mono HO_5.out (fun _ hk => hk.2)⟩, ⟨by (with_reducible repeat (first | apply Kd.R_alloc | apply Kd.R_drewN | apply Kd.R_drew)); exact Kd.R_mono HO145.out (fun _ hk => hk.2)⟩, ⟨by (with_reducible repeat (first | refine blk_drewN ?_ _ | refine blk_drew ?_ | refine blk_alloc ?_ _)); exact BK136.out⟩, ⟨by (with_reducible repeat (first | refine blk_drewN ?_ _ | refine blk_drew ?_ | refine blk_alloc ?_ _)); exact BK137.out⟩, ⟨by repeat (first | (with_reducible first | exact HB.out | apply below_alloc | apply pw_below_drewN | apply below_drew1 | refine below_set ?_ GE136.out | refine below_set ?_ GE137.out) | exact HB.out)⟩⟩
       ·rw [if_neg c22] at H
        have c22b0 : ((t143.length : Int) == 3) = false := beq_eq_false_iff_ne.mpr c22
        have c22b1 : ((t143.length : Int) != 3) = true := bne_iff_ne.mpr c22
        (first | rw [c22b0] | (simp only [i64_w, i32_w]; rw [c22b0]) | skip)
        have H' := Aside0.mk H
        clear H
        obtain ⟨Ao24, co24, eo24⟩ := Kd.R_slice HO145.out
        subst eo24
        go_wp2
        go_meet
        case rel => exact ⟨_, (true), (by first | rfl | (simp; done) | (simp [*]; done)), H', ⟨by have := HJ2.out; first | omega | exact Nat.le_refl _⟩, ⟨by (with_reducible repeat (first | apply Kd.R_alloc | apply Kd.R_drewN | apply Kd.R_drew)); exact Kd.R_mono HO_5.out (fun _ hk => hk.2)⟩, ⟨by (with_reducible repeat (first | apply Kd.R_alloc | apply Kd.R_drewN | apply Kd.R_drew)); exact Kd.R_mono HO145.out (fun _ hk => hk.2)⟩, ⟨by (with_reducible repeat (first | refine blk_drewN ?_ _ | refine blk_drew ?_ | refine blk_alloc ?_ _)); exact BK136.out⟩, ⟨by (with_reducible repeat (first | refine blk_drewN ?_ _ | refine blk_drew ?_ | refine blk_alloc ?_ _)); exact BK137.out⟩, ⟨by repeat (first | (with_reducible first | exact HB.out | apply below_alloc | apply pw_below_drewN | apply below_drew1 | refine below_set ?_ GE136.out | refine below_set ?_ GE137.out) | exact HB.out)⟩⟩
      case rest =>
       clear HC19
       try clear c1
       try clear p1
       try clear q1
       try clear hx1
       try clear qi1
       try clear c2
       try clear p2
       try clear c4
       try clear c5
       try clear c6
       try clear c7
       try clear c7b0
       try clear c7b1
       try clear c8
       try clear c8b0
       try clear c8b1
       try clear c11
       try clear c12
       try clear p14
       try clear q14
       try clear hx14
       try clear qi14
       try clear c15
       try clear c15b0
       try clear c15b1
       try clear c17
       try clear c17b0
       try clear c17b1
       try clear c22
       try clear c22b0
       try clear c22b1
       try clear hcz13_0
       try clear hcz13_1
       try clear hcz13_2
       try clear hcz13_3
       try clear hcz13_4
       try clear hcz13_5
       try clear hcz13_6
       try clear hcz14_0
       try clear hcz14_1
       try clear hcz14_2
       try clear hcz14_3
       try clear hcz14_4
       try clear hcz14_5
       try clear hcz14_6
       try clear hfz13_0
       try clear hfz13_1
       try clear hfz13_2
       try clear hfz13_3
       try clear hfz13_4
       try clear hfz13_5
       try clear hfz13_6
       try clear hfz14_0
       try clear hfz14_1
       try clear hfz14_2
       try clear hfz14_3
       try clear hfz14_4
       try clear hfz14_5
       try clear hfz14_6
       try clear hx141_0
       try clear hx142_0
       try clear hx146_0
       try clear p1
       try clear p141
       try clear p142
       try clear p146
       try clear p2
       try clear q1
       try clear q141
       try clear q142
       try clear q146
       obtain ⟨kq, x38_18, rfl, HA, HJ18, HO_5, HO_6, BK136, BK137, HB⟩ := hcut
       cases kq with
       | zero => exact absurd HA.out (by simp [stamp_parts.j1])
       | succ kj18 =>
        have H := HA.out
        clear HA
        simp only [stamp_parts.j1] at H
        by_cases c25 : x38_18 = true
        ·subst c25
         have H1 : (some (0, 0, 0, 0, 0, 0, 0, false)) = some (r1, r2, r3, r4, r5, r6, r7, r8) := by rw [if_pos rfl] at H; exact H
         clear H
         have H := H1
         clear H1
         simp only [Option.some.injEq, Prod.mk.injEq] at H
         obtain ⟨rfl, rfl, rfl, rfl, rfl, rfl, rfl, rfl⟩ := H
         have hnb26 := NB137_136.out
         have hnc26 := NB136_137.out
         have hcz27_0 : wc.cell? ⟨gb137, 0, none⟩ = some (.int .i64 0) := (blk_cell BK137.out 0).trans rfl
         have hcz27_1 : wc.cell? ⟨gb137, 1, none⟩ = some (.int .i64 0) := (blk_cell BK137.out 1).trans rfl
         have hcz27_2 : wc.cell? ⟨gb137, 2, none⟩ = some (.int .i64 0) := (blk_cell BK137.out 2).trans rfl
         have hcz27_3 : wc.cell? ⟨gb137, 3, none⟩ = some (.int .i64 0) := (blk_cell BK137.out 3).trans rfl
         have hcz27_4 : wc.cell? ⟨gb137, 4, none⟩ = some (.int .i64 0) := (blk_cell BK137.out 4).trans rfl
         have hcz27_5 : wc.cell? ⟨gb137, 5, none⟩ = some (.int .i64 0) := (blk_cell BK137.out 5).trans rfl
         have hcz27_6 : wc.cell? ⟨gb137, 6, none⟩ = some (.int .i64 0) := (blk_cell BK137.out 6).trans rfl
         have hfz27_0 := blk_frozen BK137.out 0
         have hfz27_1 := blk_frozen BK137.out 1
         have hfz27_2 := blk_frozen BK137.out 2
         have hfz27_3 := blk_frozen BK137.out 3
         have hfz27_4 := blk_frozen BK137.out 4
         have hfz27_5 := blk_frozen BK137.out 5
         have hfz27_6 := blk_frozen BK137.out 6
         have hcz28_0 : wc.cell? ⟨gb136, 0, none⟩ = some (.int .i64 0) := (blk_cell BK136.out 0).trans rfl
         have hcz28_1 : wc.cell? ⟨gb136, 1, none⟩ = some (.int .i64 0) := (blk_cell BK136.out 1).trans rfl
         have hcz28_2 : wc.cell? ⟨gb136, 2, none⟩ = some (.int .i64 0) := (blk_cell BK136.out 2).trans rfl
         have hcz28_3 : wc.cell? ⟨gb136, 3, none⟩ = some (.int .i64 0) := (blk_cell BK136.out 3).trans rfl
         have hcz28_4 : wc.cell? ⟨gb136, 4, none⟩ = some (.int .i64 0) := (blk_cell BK136.out 4).trans rfl
         have hcz28_5 : wc.cell? ⟨gb136, 5, none⟩ = some (.int .i64 0) := (blk_cell BK136.out 5).trans rfl
         have hcz28_6 : wc.cell? ⟨gb136, 6, none⟩ = some (.int .i64 0) := (blk_cell BK136.out 6).trans rfl
         have hfz28_0 := blk_frozen BK136.out 0
         have hfz28_1 := blk_frozen BK136.out 1
         have hfz28_2 := blk_frozen BK136.out 2
         have hfz28_3 := blk_frozen BK136.out 3
         have hfz28_4 := blk_frozen BK136.out 4
         have hfz28_5 := blk_frozen BK136.out 5
         have hfz28_6 := blk_frozen BK136.out 6
         go_wp2
         refine bodyPost_ret (results_ct rfl _ _ gb136 70 #[.int .i64 0, .int .i64 0, .int .i64 0, .int .i64 0, .int .i64 0, .int .i64 0, .int .i64 0] (0, 0) _ rfl (by (with_reducible repeat (first | refine blk_drewN ?_ _ | refine blk_drew ?_ | refine blk_alloc ?_ _)); refine blk_put (cs := #[.int .i64 0, .int .i64 0, .int .i64 0, .int .i64 0, .int .i64 0, .int .i64 0, .int .i64 0]) ?_ 6 _ rfl; (with_reducible repeat (first | refine blk_drewN ?_ _ | refine blk_drew ?_ | refine blk_alloc ?_ _)); refine blk_put (cs := #[.int .i64 0, .int .i64 0, .int .i64 0, .int .i64 0, .int .i64 0, .int .i64 0, .int .i64 0]) ?_ 5 _ rfl; (with_reducible repeat (first | refine blk_drewN ?_ _ | refine blk_drew ?_ | refine blk_alloc ?_ _)); refine blk_put (cs := #[.int .i64 0, .int .i64 0, .int .i64 0, .int .i64 0, .int .i64 0, .int .i64 0, .int .i64 0]) ?_ 4 _ rfl; (with_reducible repeat (first | refine blk_drewN ?_ _ | refine blk_drew ?_ | refine blk_alloc ?_ _)); refine blk_put (cs := #[.int .i64 0, .int .i64 0, .int .i64 0, .int .i64 0, .int .i64 0, .int .i64 0, .int .i64 0]) ?_ 3 _ rfl; (with_reducible repeat (first | refine blk_drewN ?_ _ | refine blk_drew ?_ | refine blk_alloc ?_ _)); refine blk_put (cs := #[.int .i64 0, .int .i64 0, .int .i64 0, .int .i64 0, .int .i64 0, .int .i64 0, .int .i64 0]) ?_ 2 _ rfl; (with_reducible repeat (first | refine blk_drewN ?_ _ | refine blk_drew ?_ | refine blk_alloc ?_ _)); refine blk_put (cs := #[.int .i64 0, .int .i64 0, .int .i64 0, .int .i64 0, .int .i64 0, .int .i64 0, .int .i64 0]) ?_ 1 _ rfl; (with_reducible repeat (first | refine blk_drewN ?_ _ | refine blk_drew ?_ | refine blk_alloc ?_ _)); refine blk_put (cs := #[.int .i64 0, .int .i64 0, .int .i64 0, .int .i64 0, .int .i64 0, .int .i64 0, .int .i64 0]) ?_ 0 _ rfl; (with_reducible repeat (first | refine blk_drewN ?_ _ | refine blk_drew ?_ | refine blk_alloc ?_ _)); exact BK136.out) Tryd.underlying70 rfl (by kernel_rfl)) rfl ?_
         exact ⟨by first | rfl | (simp [bneNil]; done) | (simp [errW_none, errW_some] <;> rfl) | (simp [*, errW_none, errW_some] <;> rfl), by repeat (first | (with_reducible first | exact HB.out | apply below_alloc | apply pw_below_drewN | apply below_drew1 | refine below_set ?_ GE136.out | refine below_set ?_ GE137.out) | exact HB.out)⟩
        ·replace c25 := Bool.eq_false_iff.mpr c25
         subst c25
         have H1 : ((slices_Index_string_string.f wdT t147).bind fun t149 => (if 1 < (t138.length : Int) then ((stamp_number.f (rdOf ByteArray.empty t138 1) 2 2).bind fun t151 => (if 2 < (t138.length : Int) then ((slices_Index_string_string.f moT (rdOf ByteArray.empty t138 2)).bind fun t153 => (if 3 < (t138.length : Int) then ((stamp_number.f (rdOf ByteArray.empty t138 3) 4 10).bind fun t155 => (if 0 < (t143.length : Int) then ((stamp_number.f (rdOf ByteArray.empty t143 0) 2 2).bind fun t157 => (if 1 < (t143.length : Int) then ((stamp_number.f (rdOf ByteArray.empty t143 1) 2 2).bind fun t159 => (if 2 < (t143.length : Int) then ((stamp_number.f (rdOf ByteArray.empty t143 2) 2 2).bind fun t161 => ((slices_ContainsFunc_int64_int64__stamp_parts_1.f [t149, t151, t153, t155, t157, t159, t161]).bind fun t162 => (some (t149, t151, t153, t155, t157, t159, t161, !t162)))) else (none))) else (none))) else (none))) else (none))) else (none))) else (none))) = some (r1, r2, r3, r4, r5, r6, r7, r8) := by rw [if_neg (show ¬ (false = true) by decide)] at H; exact H
         clear H
         have H := H1
         clear H1
         replace H := Option.bind_eq_some_iff.mp H
         obtain ⟨t149, A290, H⟩ := H
         replace H : (if 1 < (t138.length : Int) then ((stamp_number.f (rdOf ByteArray.empty t138 1) 2 2).bind fun t151 => (if 2 < (t138.length : Int) then ((slices_Index_string_string.f moT (rdOf ByteArray.empty t138 2)).bind fun t153 => (if 3 < (t138.length : Int) then ((stamp_number.f (rdOf ByteArray.empty t138 3) 4 10).bind fun t155 => (if 0 < (t143.length : Int) then ((stamp_number.f (rdOf ByteArray.empty t143 0) 2 2).bind fun t157 => (if 1 < (t143.length : Int) then ((stamp_number.f (rdOf ByteArray.empty t143 1) 2 2).bind fun t159 => (if 2 < (t143.length : Int) then ((stamp_number.f (rdOf ByteArray.empty t143 2) 2 2).bind fun t161 => ((slices_ContainsFunc_int64_int64__stamp_parts_1.f [t149, t151, t153, t155, t157, t159, t161]).bind fun t162 => (some (t149, t151, t153, t155, t157, t159, t161, !t162)))) else (none))) else (none))) else (none))) else (none))) else (none))) else (none)) = some (r1, r2, r3, r4, r5, r6, r7, r8) := H
         have A29 := Aside0.mk A290
         clear A290
         by_cases c30 : 1 < (t138.length : Int)
         ·rw [if_pos c30] at H
          have c30b0 : decide (1 < (t138.length : Int)) = true := decide_eq_true c30
          have c30b1 : decide (1 < t138.length) = true := decide_eq_true (by omega)
          clear c30
          replace H := Option.bind_eq_some_iff.mp H
          obtain ⟨t151, A310, H⟩ := H
          replace H : (if 2 < (t138.length : Int) then ((slices_Index_string_string.f moT (rdOf ByteArray.empty t138 2)).bind fun t153 => (if 3 < (t138.length : Int) then ((stamp_number.f (rdOf ByteArray.empty t138 3) 4 10).bind fun t155 => (if 0 < (t143.length : Int) then ((stamp_number.f (rdOf ByteArray.empty t143 0) 2 2).bind fun t157 => (if 1 < (t143.length : Int) then ((stamp_number.f (rdOf ByteArray.empty t143 1) 2 2).bind fun t159 => (if 2 < (t143.length : Int) then ((stamp_number.f (rdOf ByteArray.empty t143 2) 2 2).bind fun t161 => ((slices_ContainsFunc_int64_int64__stamp_parts_1.f [t149, t151, t153, t155, t157, t159, t161]).bind fun t162 => (some (t149, t151, t153, t155, t157, t159, t161, !t162)))) else (none))) else (none))) else (none))) else (none))) else (none)) = some (r1, r2, r3, r4, r5, r6, r7, r8) := H
          have A31 := Aside0.mk A310
          clear A310
          by_cases c32 : 2 < (t138.length : Int)
          ·rw [if_pos c32] at H
           have c32b0 : decide (2 < (t138.length : Int)) = true := decide_eq_true c32
           have c32b1 : decide (2 < t138.length) = true := decide_eq_true (by omega)
           clear c32
           replace H := Option.bind_eq_some_iff.mp H
           obtain ⟨t153, A330, H⟩ := H
           replace H : (if 3 < (t138.length : Int) then ((stamp_number.f (rdOf ByteArray.empty t138 3) 4 10).bind fun t155 => (if 0 < (t143.length : Int) then ((stamp_number.f (rdOf ByteArray.empty t143 0) 2 2).bind fun t157 => (if 1 < (t143.length : Int) then ((stamp_number.f (rdOf ByteArray.empty t143 1) 2 2).bind fun t159 => (if 2 < (t143.length : Int) then ((stamp_number.f (rdOf ByteArray.empty t143 2) 2 2).bind fun t161 => ((slices_ContainsFunc_int64_int64__stamp_parts_1.f [t149, t151, t153, t155, t157, t159, t161]).bind fun t162 => (some (t149, t151, t153, t155, t157, t159, t161, !t162)))) else (none))) else (none))) else (none))) else (none)) = some (r1, r2, r3, r4, r5, r6, r7, r8) := H
           have A33 := Aside0.mk A330
           clear A330
           by_cases c34 : 3 < (t138.length : Int)
           ·rw [if_pos c34] at H
            have c34b0 : decide (3 < (t138.length : Int)) = true := decide_eq_true c34
            have c34b1 : decide (3 < t138.length) = true := decide_eq_true (by omega)
            clear c34
            replace H := Option.bind_eq_some_iff.mp H
            obtain ⟨t155, A350, H⟩ := H
            replace H : (if 0 < (t143.length : Int) then ((stamp_number.f (rdOf ByteArray.empty t143 0) 2 2).bind fun t157 => (if 1 < (t143.length : Int) then ((stamp_number.f (rdOf ByteArray.empty t143 1) 2 2).bind fun t159 => (if 2 < (t143.length : Int) then ((stamp_number.f (rdOf ByteArray.empty t143 2) 2 2).bind fun t161 => ((slices_ContainsFunc_int64_int64__stamp_parts_1.f [t149, t151, t153, t155, t157, t159, t161]).bind fun t162 => (some (t149, t151, t153, t155, t157, t159, t161, !t162)))) else (none))) else (none))) else (none)) = some (r1, r2, r3, r4, r5, r6, r7, r8) := H
            have A35 := Aside0.mk A350
            clear A350
            by_cases c36 : 0 < (t143.length : Int)
            ·rw [if_pos c36] at H
             have c36b0 : decide (0 < (t143.length : Int)) = true := decide_eq_true c36
             have c36b1 : decide (0 < t143.length) = true := decide_eq_true (by omega)
             clear c36
             replace H := Option.bind_eq_some_iff.mp H
             obtain ⟨t157, A370, H⟩ := H
             replace H : (if 1 < (t143.length : Int) then ((stamp_number.f (rdOf ByteArray.empty t143 1) 2 2).bind fun t159 => (if 2 < (t143.length : Int) then ((stamp_number.f (rdOf ByteArray.empty t143 2) 2 2).bind fun t161 => ((slices_ContainsFunc_int64_int64__stamp_parts_1.f [t149, t151, t153, t155, t157, t159, t161]).bind fun t162 => (some (t149, t151, t153, t155, t157, t159, t161, !t162)))) else (none))) else (none)) = some (r1, r2, r3, r4, r5, r6, r7, r8) := H
             have A37 := Aside0.mk A370
             clear A370
             by_cases c38 : 1 < (t143.length : Int)
             ·rw [if_pos c38] at H
              have c38b0 : decide (1 < (t143.length : Int)) = true := decide_eq_true c38
              have c38b1 : decide (1 < t143.length) = true := decide_eq_true (by omega)
              clear c38
              replace H := Option.bind_eq_some_iff.mp H
              obtain ⟨t159, A390, H⟩ := H
              replace H : (if 2 < (t143.length : Int) then ((stamp_number.f (rdOf ByteArray.empty t143 2) 2 2).bind fun t161 => ((slices_ContainsFunc_int64_int64__stamp_parts_1.f [t149, t151, t153, t155, t157, t159, t161]).bind fun t162 => (some (t149, t151, t153, t155, t157, t159, t161, !t162)))) else (none)) = some (r1, r2, r3, r4, r5, r6, r7, r8) := H
              have A39 := Aside0.mk A390
              clear A390
              by_cases c40 : 2 < (t143.length : Int)
              ·rw [if_pos c40] at H
               have c40b0 : decide (2 < (t143.length : Int)) = true := decide_eq_true c40
               have c40b1 : decide (2 < t143.length) = true := decide_eq_true (by omega)
               clear c40
               replace H := Option.bind_eq_some_iff.mp H
               obtain ⟨t161, A410, H⟩ := H
               replace H : ((slices_ContainsFunc_int64_int64__stamp_parts_1.f [t149, t151, t153, t155, t157, t159, t161]).bind fun t162 => (some (t149, t151, t153, t155, t157, t159, t161, !t162))) = some (r1, r2, r3, r4, r5, r6, r7, r8) := H
               have A41 := Aside0.mk A410
               clear A410
               replace H := Option.bind_eq_some_iff.mp H
               obtain ⟨t162, A420, H⟩ := H
               replace H : (some (t149, t151, t153, t155, t157, t159, t161, !t162)) = some (r1, r2, r3, r4, r5, r6, r7, r8) := H
               have A42 := Aside0.mk A420
               clear A420
               simp only [Option.some.injEq, Prod.mk.injEq] at H
               obtain ⟨rfl, rfl, rfl, rfl, rfl, rfl, rfl, rfl⟩ := H
               try go_wp2
               have n0_ := Aside0.mk (Kd.R_drew HO_5.out)
               have n1_ := Aside0.mk (Kd.R_drew HO_6.out)
               have n2_ := Aside0.mk (blk_drew BK136.out)
               have n3_ := Aside0.mk (blk_drew BK137.out)
               have n4_ := Aside0.mk (below_drew1 HB.out)
               clear HO_5
               clear HO_6
               clear BK136
               clear BK137
               clear HB
               have HO_5 := n0_
               have HO_6 := n1_
               have BK136 := n2_
               have BK137 := n3_
               have HB := n4_
               clear n0_ n1_ n2_ n3_ n4_
               have p150 : 0 ≤ (1 : Int) := (by omega)
               have q150 : 1 < (t138.length : Int) := od
               obtain ⟨ad150, e150, hx150_0⟩ := Kd.at_string (Kd.R_reads' HO_5.out).2.2 1 p150 q150
               obtain rfl : ad142 = ad150 := (by injection e150)
               (try simp only [show (1 : Int).toNat = 1 from rfl, Nat.reduceMul, Nat.reduceEqDiff, Go.Addr.add, ↓reduceIte] at hx150_0)
               have qi150 : (1 < t138.length) = True := eq_true (by omega)
               (try rw [show ((1 : Int)).toNat = 1 from rfl] at hx150_0)
               replace p150 := eq_true p150
               replace q150 := eq_true q150
               have p152 : 0 ≤ (2 : Int) := (by omega)
               have q152 : 2 < (t138.length : Int) := od
               obtain ⟨ad152, e152, hx152_0⟩ := Kd.at_string (Kd.R_reads' HO_5.out).2.2 2 p152 q152
               obtain rfl : ad142 = ad152 := (by injection e152)
               (try simp only [show (2 : Int).toNat = 2 from rfl, Nat.reduceMul, Nat.reduceEqDiff, Go.Addr.add, ↓reduceIte] at hx152_0)
               have qi152 : (2 < t138.length) = True := eq_true (by omega)
               (try rw [show ((2 : Int)).toNat = 2 from rfl] at hx152_0)
               replace p152 := eq_true p152
               replace q152 := eq_true q152
               have p154 : 0 ≤ (3 : Int) := (by omega)
               have q154 : 3 < (t138.length : Int) := od
               obtain ⟨ad154, e154, hx154_0⟩ := Kd.at_string (Kd.R_reads' HO_5.out).2.2 3 p154 q154
               obtain rfl : ad142 = ad154 := (by injection e154)
               (try simp only [show (3 : Int).toNat = 3 from rfl, Nat.reduceMul, Nat.reduceEqDiff, Go.Addr.add, ↓reduceIte] at hx154_0)
               have qi154 : (3 < t138.length) = True := eq_true (by omega)
               (try rw [show ((3 : Int)).toNat = 3 from rfl] at hx154_0)
               replace p154 := eq_true p154
               replace q154 := eq_true q154
               obtain ⟨Ao44, co44, eo44⟩ := Kd.R_slice HO_6.out
               (first | subst eo44 | (injection eo44 with f1_ f2_ f3_; have f4_ := f1_.symm; have f5_ := f3_.symm; clear f1_ f2_ f3_; subst f4_; subst f5_))
               have p156 : 0 ≤ (0 : Int) := (by omega)
               have q156 : 0 < (t143.length : Int) := od
               obtain ⟨ad156, e156, hx156_0⟩ := Kd.at_string (Kd.R_reads' HO_6.out).2.2 0 p156 q156
               cases e156
               have qi156 : (0 < t143.length) = True := eq_true (by omega)
               (try rw [show ((0 : Int)).toNat = 0 from rfl] at hx156_0)
               (try rw [Addr.add_zero'] at hx156_0)
               replace p156 := eq_true p156
               replace q156 := eq_true q156
               have p158 : 0 ≤ (1 : Int) := (by omega)
               have q158 : 1 < (t143.length : Int) := od
               obtain ⟨ad158, e158, hx158_0⟩ := Kd.at_string (Kd.R_reads' HO_6.out).2.2 1 p158 q158
               obtain rfl : ad156 = ad158 := (by injection e158)
               (try simp only [show (1 : Int).toNat = 1 from rfl, Nat.reduceMul, Nat.reduceEqDiff, Go.Addr.add, ↓reduceIte] at hx158_0)
               have qi158 : (1 < t143.length) = True := eq_true (by omega)
               (try rw [show ((1 : Int)).toNat = 1 from rfl] at hx158_0)
               replace p158 := eq_true p158
               replace q158 := eq_true q158
               have p160 : 0 ≤ (2 : Int) := (by omega)
               have q160 : 2 < (t143.length : Int) := od
               obtain ⟨ad160, e160, hx160_0⟩ := Kd.at_string (Kd.R_reads' HO_6.out).2.2 2 p160 q160
               obtain rfl : ad156 = ad160 := (by injection e160)
               (try simp only [show (2 : Int).toNat = 2 from rfl, Nat.reduceMul, Nat.reduceEqDiff, Go.Addr.add, ↓reduceIte] at hx160_0)
               have qi160 : (2 < t143.length) = True := eq_true (by omega)
               (try rw [show ((2 : Int)).toNat = 2 from rfl] at hx160_0)
               replace p160 := eq_true p160
               replace q160 := eq_true q160
               refine start_ (n := 30) (S := fun w' => w'.cell? ⟨ad142.block, ad142.off + 1, none⟩ = some (.string (rdOf ByteArray.empty t138 1)) ∧ w'.cell? ⟨ad142.block, ad142.off + 2, none⟩ = some (.string (rdOf ByteArray.empty t138 2)) ∧ w'.cell? ⟨ad142.block, ad142.off + 3, none⟩ = some (.string (rdOf ByteArray.empty t138 3)) ∧ w'.cell? ad156 = some (.string (rdOf ByteArray.empty t143 0)) ∧ w'.cell? ⟨ad156.block, ad156.off + 1, none⟩ = some (.string (rdOf ByteArray.empty t143 1)) ∧ w'.cell? ⟨ad156.block, ad156.off + 2, none⟩ = some (.string (rdOf ByteArray.empty t143 2))) (ds := []) #[false, false, false, false, false, false, false, false, false, false, false, false, false, false, false, false, false, false, false, false, false, false, false, false, false, false, false, false, false, false] (by kernel_rfl) rfl rfl ⟨hx150_0, hx152_0, hx154_0, hx156_0, hx158_0, hx160_0⟩ (fun hHeld => ?_); refine with_tabW stamp_parts.tab9 stamp_parts.bits9 (fun HT_ HW_ => ?_)
               generalize wc.drew = w43 at HO_5 HO_6 BK136 BK137 HB hx150_0 hx152_0 hx154_0 hx156_0 hx158_0 hx160_0 hHeld ⊢
               refine pure_ (i := 0) (N := some 40) (v := ?_) (a' := ?_) #[true, false, false, false, false, false, false, false, false, false, false, false, false, false, false, false, false, false, false, false, false, false, false, false, false, false, false, false, false, false] rfl rfl (any_of HT_.out (by kernel_rfl)) (fun _ _ _ h => h) (Or.inl ⟨by rfl, ?_⟩) ?_ ?_
               rotate_left
               ·intro w'
                go_simp
                with_reducible rfl
               rotate_left
               ·simp only [Act.put, List.setIfInBounds_toArray, List.set_cons_zero, List.set_cons_succ, i64_w, i32_w]
                rfl
               refine pure_ (i := 1) (N := some 41) (v := ?_) (a' := ?_) #[true, true, false, false, false, false, false, false, false, false, false, false, false, false, false, false, false, false, false, false, false, false, false, false, false, false, false, false, false, false] rfl rfl (any_of HT_.out (by kernel_rfl)) (fun _ _ _ h => h) (Or.inl ⟨by rfl, ?_⟩) ?_ ?_
               rotate_left
               ·intro w'
                go_simp
                with_reducible rfl
               rotate_left
               ·simp only [Act.put, List.setIfInBounds_toArray, List.set_cons_zero, List.set_cons_succ, i64_w, i32_w]
                rfl
               refine pure_ (i := 3) (N := some 43) (v := ?_) (a' := ?_) #[true, true, false, true, false, false, false, false, false, false, false, false, false, false, false, false, false, false, false, false, false, false, false, false, false, false, false, false, false, false] rfl rfl (any_of HT_.out (by kernel_rfl)) (fun _ _ _ h => h) (Or.inl ⟨by rfl, ?_⟩) ?_ ?_
               rotate_left
               ·intro w'
                go_simp
                with_reducible rfl
               rotate_left
               ·simp only [Act.put, List.setIfInBounds_toArray, List.set_cons_zero, List.set_cons_succ, i64_w, i32_w]
                rfl
               refine pure_ (i := 4) (N := some 44) (v := ?_) (a' := ?_) #[true, true, false, true, true, false, false, false, false, false, false, false, false, false, false, false, false, false, false, false, false, false, false, false, false, false, false, false, false, false] rfl rfl (any_of HT_.out (by kernel_rfl)) (fun _ _ _ h => h) (Or.inl ⟨by rfl, ?_⟩) ?_ ?_
               rotate_left
               ·intro w'
                go_simp
                with_reducible rfl
               rotate_left
               ·simp only [Act.put, List.setIfInBounds_toArray, List.set_cons_zero, List.set_cons_succ, i64_w, i32_w]
                rfl
               refine pure_ (i := 7) (N := some 47) (v := ?_) (a' := ?_) #[true, true, false, true, true, false, false, true, false, false, false, false, false, false, false, false, false, false, false, false, false, false, false, false, false, false, false, false, false, false] rfl rfl (any_of HT_.out (by kernel_rfl)) (fun _ _ _ h => h) (Or.inl ⟨by rfl, ?_⟩) ?_ ?_
               rotate_left
               ·intro w'
                go_simp
                with_reducible rfl
               rotate_left
               ·simp only [Act.put, List.setIfInBounds_toArray, List.set_cons_zero, List.set_cons_succ, i64_w, i32_w]
                rfl
               refine pure_ (i := 8) (N := some 48) (v := ?_) (a' := ?_) #[true, true, false, true, true, false, false, true, true, false, false, false, false, false, false, false, false, false, false, false, false, false, false, false, false, false, false, false, false, false] rfl rfl (any_of HT_.out (by kernel_rfl)) (fun _ _ _ h => h) (Or.inl ⟨by rfl, ?_⟩) ?_ ?_
               rotate_left
               ·intro w'
                go_simp
                with_reducible rfl
               rotate_left
               ·simp only [Act.put, List.setIfInBounds_toArray, List.set_cons_zero, List.set_cons_succ, i64_w, i32_w]
                rfl
               refine pure_ (i := 9) (N := some 49) (v := ?_) (a' := ?_) #[true, true, false, true, true, false, false, true, true, true, false, false, false, false, false, false, false, false, false, false, false, false, false, false, false, false, false, false, false, false] rfl rfl (any_of HT_.out (by kernel_rfl)) (fun _ _ _ h => h) (Or.inl ⟨by rfl, ?_⟩) ?_ ?_
               rotate_left
               ·intro w'
                go_simp
                with_reducible rfl
               rotate_left
               ·simp only [Act.put, List.setIfInBounds_toArray, List.set_cons_zero, List.set_cons_succ, i64_w, i32_w]
                rfl
               refine pure_ (i := 12) (N := some 52) (v := ?_) (a' := ?_) #[true, true, false, true, true, false, false, true, true, true, false, false, true, false, false, false, false, false, false, false, false, false, false, false, false, false, false, false, false, false] rfl rfl (any_of HT_.out (by kernel_rfl)) (fun _ _ _ h => h) (Or.inl ⟨by rfl, ?_⟩) ?_ ?_
               rotate_left
               ·intro w'
                go_simp
                with_reducible rfl
               rotate_left
               ·simp only [Act.put, List.setIfInBounds_toArray, List.set_cons_zero, List.set_cons_succ, i64_w, i32_w]
                rfl
               refine pure_ (i := 13) (N := some 53) (v := ?_) (a' := ?_) #[true, true, false, true, true, false, false, true, true, true, false, false, true, true, false, false, false, false, false, false, false, false, false, false, false, false, false, false, false, false] rfl rfl (any_of HT_.out (by kernel_rfl)) (fun _ _ _ h => h) (Or.inl ⟨by rfl, ?_⟩) ?_ ?_
               rotate_left
               ·intro w'
                go_simp
                with_reducible rfl
               rotate_left
               ·simp only [Act.put, List.setIfInBounds_toArray, List.set_cons_zero, List.set_cons_succ, i64_w, i32_w]
                rfl
               refine pure_ (i := 16) (N := some 56) (v := ?_) (a' := ?_) #[true, true, false, true, true, false, false, true, true, true, false, false, true, true, false, false, true, false, false, false, false, false, false, false, false, false, false, false, false, false] rfl rfl (any_of HT_.out (by kernel_rfl)) (fun _ _ _ h => h) (Or.inl ⟨by rfl, ?_⟩) ?_ ?_
               rotate_left
               ·intro w'
                go_simp
                with_reducible rfl
               rotate_left
               ·simp only [Act.put, List.setIfInBounds_toArray, List.set_cons_zero, List.set_cons_succ, i64_w, i32_w]
                rfl
               refine pure_ (i := 17) (N := some 57) (v := ?_) (a' := ?_) #[true, true, false, true, true, false, false, true, true, true, false, false, true, true, false, false, true, true, false, false, false, false, false, false, false, false, false, false, false, false] rfl rfl (any_of HT_.out (by kernel_rfl)) (fun _ _ _ h => h) (Or.inl ⟨by rfl, ?_⟩) ?_ ?_
               rotate_left
               ·intro w'
                go_simp
                with_reducible rfl
               rotate_left
               ·simp only [Act.put, List.setIfInBounds_toArray, List.set_cons_zero, List.set_cons_succ, i64_w, i32_w]
                rfl
               refine pure_ (i := 20) (N := some 60) (v := ?_) (a' := ?_) #[true, true, false, true, true, false, false, true, true, true, false, false, true, true, false, false, true, true, false, false, true, false, false, false, false, false, false, false, false, false] rfl rfl (any_of HT_.out (by kernel_rfl)) (fun _ _ _ h => h) (Or.inl ⟨by rfl, ?_⟩) ?_ ?_
               rotate_left
               ·intro w'
                go_simp
                with_reducible rfl
               rotate_left
               ·simp only [Act.put, List.setIfInBounds_toArray, List.set_cons_zero, List.set_cons_succ, i64_w, i32_w]
                rfl
               refine pure_ (i := 21) (N := some 61) (v := ?_) (a' := ?_) #[true, true, false, true, true, false, false, true, true, true, false, false, true, true, false, false, true, true, false, false, true, true, false, false, false, false, false, false, false, false] rfl rfl (any_of HT_.out (by kernel_rfl)) (fun _ _ _ h => h) (Or.inl ⟨by rfl, ?_⟩) ?_ ?_
               rotate_left
               ·intro w'
                go_simp
                with_reducible rfl
               rotate_left
               ·simp only [Act.put, List.setIfInBounds_toArray, List.set_cons_zero, List.set_cons_succ, i64_w, i32_w]
                rfl
               refine pure_ (i := 24) (N := some 64) (v := ?_) (a' := ?_) #[true, true, false, true, true, false, false, true, true, true, false, false, true, true, false, false, true, true, false, false, true, true, false, false, true, false, false, false, false, false] rfl rfl (any_of HT_.out (by kernel_rfl)) (fun _ _ _ h => h) (Or.inl ⟨by rfl, ?_⟩) ?_ ?_
               rotate_left
               ·intro w'
                go_simp
                with_reducible rfl
               rotate_left
               ·simp only [Act.put, List.setIfInBounds_toArray, List.set_cons_zero, List.set_cons_succ, i64_w, i32_w]
                rfl
               refine pure_ (i := 25) (N := some 65) (v := ?_) (a' := ?_) #[true, true, false, true, true, false, false, true, true, true, false, false, true, true, false, false, true, true, false, false, true, true, false, false, true, true, false, false, false, false] rfl rfl (any_of HT_.out (by kernel_rfl)) (fun _ _ _ h => h) (Or.inl ⟨by rfl, ?_⟩) ?_ ?_
               rotate_left
               ·intro w'
                go_simp
                with_reducible rfl
               rotate_left
               ·simp only [Act.put, List.setIfInBounds_toArray, List.set_cons_zero, List.set_cons_succ, i64_w, i32_w]
                rfl
               refine take_ (i := 5) (N := some 45) (v := ?_) (a' := ?_) #[true, true, false, true, true, true, false, true, true, true, false, false, true, true, false, false, true, true, false, false, true, true, false, false, true, true, false, false, false, false] rfl rfl (take_ofW HT_.out HW_.out (by kernel_rfl)) (fun _ _ _ h => h) (Or.inl ⟨by rfl, ?_⟩) hHeld ?_ ?_
               rotate_left
               ·rintro w' ⟨s0, s1, s2, s3, s4, s5⟩
                go_simp
                with_reducible rfl
               rotate_left
               ·simp only [Act.put, List.setIfInBounds_toArray, List.set_cons_zero, List.set_cons_succ, i64_w, i32_w]
                rfl
               refine take_ (i := 10) (N := some 50) (v := ?_) (a' := ?_) #[true, true, false, true, true, true, false, true, true, true, true, false, true, true, false, false, true, true, false, false, true, true, false, false, true, true, false, false, false, false] rfl rfl (take_ofW HT_.out HW_.out (by kernel_rfl)) (fun _ _ _ h => h) (Or.inl ⟨by rfl, ?_⟩) hHeld ?_ ?_
               rotate_left
               ·rintro w' ⟨s0, s1, s2, s3, s4, s5⟩
                go_simp
                with_reducible rfl
               rotate_left
               ·simp only [Act.put, List.setIfInBounds_toArray, List.set_cons_zero, List.set_cons_succ, i64_w, i32_w]
                rfl
               refine take_ (i := 14) (N := some 54) (v := ?_) (a' := ?_) #[true, true, false, true, true, true, false, true, true, true, true, false, true, true, true, false, true, true, false, false, true, true, false, false, true, true, false, false, false, false] rfl rfl (take_ofW HT_.out HW_.out (by kernel_rfl)) (fun _ _ _ h => h) (Or.inl ⟨by rfl, ?_⟩) hHeld ?_ ?_
               rotate_left
               ·rintro w' ⟨s0, s1, s2, s3, s4, s5⟩
                go_simp
                with_reducible rfl
               rotate_left
               ·simp only [Act.put, List.setIfInBounds_toArray, List.set_cons_zero, List.set_cons_succ, i64_w, i32_w]
                rfl
               refine take_ (i := 18) (N := some 58) (v := ?_) (a' := ?_) #[true, true, false, true, true, true, false, true, true, true, true, false, true, true, true, false, true, true, true, false, true, true, false, false, true, true, false, false, false, false] rfl rfl (take_ofW HT_.out HW_.out (by kernel_rfl)) (fun _ _ _ h => h) (Or.inl ⟨by rfl, ?_⟩) hHeld ?_ ?_
               rotate_left
               ·rintro w' ⟨s0, s1, s2, s3, s4, s5⟩
                go_simp
                with_reducible rfl
               rotate_left
               ·simp only [Act.put, List.setIfInBounds_toArray, List.set_cons_zero, List.set_cons_succ, i64_w, i32_w]
                rfl
               refine take_ (i := 22) (N := some 62) (v := ?_) (a' := ?_) #[true, true, false, true, true, true, false, true, true, true, true, false, true, true, true, false, true, true, true, false, true, true, true, false, true, true, false, false, false, false] rfl rfl (take_ofW HT_.out HW_.out (by kernel_rfl)) (fun _ _ _ h => h) (Or.inl ⟨by rfl, ?_⟩) hHeld ?_ ?_
               rotate_left
               ·rintro w' ⟨s0, s1, s2, s3, s4, s5⟩
                go_simp
                with_reducible rfl
               rotate_left
               ·simp only [Act.put, List.setIfInBounds_toArray, List.set_cons_zero, List.set_cons_succ, i64_w, i32_w]
                rfl
               refine take_ (i := 26) (N := some 66) (v := ?_) (a' := ?_) #[true, true, false, true, true, true, false, true, true, true, true, false, true, true, true, false, true, true, true, false, true, true, true, false, true, true, true, false, false, false] rfl rfl (take_ofW HT_.out HW_.out (by kernel_rfl)) (fun _ _ _ h => h) (Or.inl ⟨by rfl, ?_⟩) hHeld ?_ ?_
               rotate_left
               ·rintro w' ⟨s0, s1, s2, s3, s4, s5⟩
                go_simp
                with_reducible rfl
               rotate_left
               ·simp only [Act.put, List.setIfInBounds_toArray, List.set_cons_zero, List.set_cons_succ, i64_w, i32_w]
                rfl
               refine one_ (i := 2) (N := some 42) #[true, true, true, true, true, true, false, true, true, true, true, false, true, true, true, false, true, true, true, false, true, true, true, false, true, true, true, false, false, false] rfl rfl (one_of HT_.out (by kernel_rfl)) (by decide) (fun K hK => ?_)
               refine goes_ Tryd.func61 (by kernel_rfl) rfl #[.slice (some ⟨0, 0, none⟩) 7 7, .string t147] (by rfl) rfl rfl ml ?_
               refine (slices_Index_string_string.calls _ _ wdT t147 t149 _ ?side1 ?side2 A29.out).mono ?_
               (case side1 => repeat (first | exact (Kd.C_below HRG0.out HB.out) | (with_reducible refine Kd.C_alloc ?_ _) | (with_reducible refine Kd.C_drewN ?_ _) | (with_reducible refine Kd.C_drew ?_)))
               (case side2 => decide)
               rintro e w' ⟨rfl, ⟨nd, rfl⟩⟩
               refine ⟨_, rfl, ?_⟩
               refine hK.out _ _ ⟨hHeld.1, hHeld.2.1, hHeld.2.2.1, hHeld.2.2.2.1, hHeld.2.2.2.2.1, hHeld.2.2.2.2.2⟩ (fun hHeld => ?_)
               clear hK K
               refine norm_ (a' := ?_) ?_ ?_
               rotate_left
               ·show Act.put _ (some 42) _ = _
                simp only [Act.put, List.setIfInBounds_toArray, List.set_cons_zero, List.set_cons_succ, i64_w, i32_w]
                rfl
               refine one_ (i := 6) (N := some 46) #[true, true, true, true, true, true, true, true, true, true, true, false, true, true, true, false, true, true, true, false, true, true, true, false, true, true, true, false, false, false] rfl rfl (one_of HT_.out (by kernel_rfl)) (by decide) (fun K hK => ?_)
               refine goes_ Tryd.func62 (by kernel_rfl) rfl #[.string (rdOf ByteArray.empty t138 1), .int .i64 2, .int .i64 2] (by rfl) rfl rfl ml ?_
               with_reducible refine (stamp_number.calls (rdOf ByteArray.empty t138 1) 2 2 t151 _ A31.out).mono ?_
               rintro e w45 ⟨rfl, hb⟩
               have HS0_ := (hb.cell (World.block_lt_of_cell? _ _ (hHeld.1))).trans (hHeld.1)
               have HS1_ := (hb.cell (World.block_lt_of_cell? _ _ (hHeld.2.1))).trans (hHeld.2.1)
               have HS2_ := (hb.cell (World.block_lt_of_cell? _ _ (hHeld.2.2.1))).trans (hHeld.2.2.1)
               have HS3_ := (hb.cell (World.block_lt_of_cell? _ _ (hHeld.2.2.2.1))).trans (hHeld.2.2.2.1)
               have HS4_ := (hb.cell (World.block_lt_of_cell? _ _ (hHeld.2.2.2.2.1))).trans (hHeld.2.2.2.2.1)
               have HS5_ := (hb.cell (World.block_lt_of_cell? _ _ (hHeld.2.2.2.2.2))).trans (hHeld.2.2.2.2.2)
               refine ⟨_, rfl, ?_⟩
               have n0_ := Aside0.mk (Kd.R_below (kr HO_5.out) hb)
               have n1_ := Aside0.mk (Kd.R_below (kr HO_6.out) hb)
               have n2_ := Aside0.mk (kb BK136.out hb)
               have n3_ := Aside0.mk (kb BK137.out hb)
               have n4_ := Aside0.mk (below_step bl hb)
               clear HO_5
               clear HO_6
               clear BK136
               clear BK137
               clear HB
               have HO_5 := n0_
               have HO_6 := n1_
               have BK136 := n2_
               have BK137 := n3_
               have HB := n4_
               clear n0_ n1_ n2_ n3_ n4_
               (try clear hb)
               (try clear hb2)
               (try clear hk)
               (try clear hi)
               refine hK.out _ _ ⟨HS0_, HS1_, HS2_, HS3_, HS4_, HS5_⟩ (fun hHeld => ?_)
               clear hK K
               refine norm_ (a' := ?_) ?_ ?_
               rotate_left
               ·show Act.put _ (some 46) _ = _
                simp only [Act.put, List.setIfInBounds_toArray, List.set_cons_zero, List.set_cons_succ, i64_w, i32_w]
                rfl
               refine one_ (i := 11) (N := some 51) #[true, true, true, true, true, true, true, true, true, true, true, true, true, true, true, false, true, true, true, false, true, true, true, false, true, true, true, false, false, false] rfl rfl (one_of HT_.out (by kernel_rfl)) (by decide) (fun K hK => ?_)
               refine goes_ Tryd.func61 (by kernel_rfl) rfl #[.slice (some ⟨1, 0, none⟩) 12 12, .string (rdOf ByteArray.empty t138 2)] (by rfl) rfl rfl ml ?_
               refine (slices_Index_string_string.calls _ _ moT (rdOf ByteArray.empty t138 2) t153 _ ?side1 ?side2 A33.out).mono ?_
               (case side1 => repeat (first | exact (Kd.C_below HRG1.out HB.out) | (with_reducible refine Kd.C_alloc ?_ _) | (with_reducible refine Kd.C_drewN ?_ _) | (with_reducible refine Kd.C_drew ?_)))
               (case side2 => decide)
               rintro e w' ⟨rfl, ⟨nd, rfl⟩⟩
               refine ⟨_, rfl, ?_⟩
               refine hK.out _ _ ⟨hHeld.1, hHeld.2.1, hHeld.2.2.1, hHeld.2.2.2.1, hHeld.2.2.2.2.1, hHeld.2.2.2.2.2⟩ (fun hHeld => ?_)
               clear hK K
               refine norm_ (a' := ?_) ?_ ?_
               rotate_left
               ·show Act.put _ (some 51) _ = _
                simp only [Act.put, List.setIfInBounds_toArray, List.set_cons_zero, List.set_cons_succ, i64_w, i32_w]
                rfl
               refine one_ (i := 15) (N := some 55) #[true, true, true, true, true, true, true, true, true, true, true, true, true, true, true, true, true, true, true, false, true, true, true, false, true, true, true, false, false, false] rfl rfl (one_of HT_.out (by kernel_rfl)) (by decide) (fun K hK => ?_)
               refine goes_ Tryd.func62 (by kernel_rfl) rfl #[.string (rdOf ByteArray.empty t138 3), .int .i64 4, .int .i64 10] (by rfl) rfl rfl ml ?_
               with_reducible refine (stamp_number.calls (rdOf ByteArray.empty t138 3) 4 10 t155 _ A35.out).mono ?_
               rintro e w46 ⟨rfl, hb⟩
               have HS0_ := (hb.cell (World.block_lt_of_cell? _ _ (hHeld.1))).trans (hHeld.1)
               have HS1_ := (hb.cell (World.block_lt_of_cell? _ _ (hHeld.2.1))).trans (hHeld.2.1)
               have HS2_ := (hb.cell (World.block_lt_of_cell? _ _ (hHeld.2.2.1))).trans (hHeld.2.2.1)
               have HS3_ := (hb.cell (World.block_lt_of_cell? _ _ (hHeld.2.2.2.1))).trans (hHeld.2.2.2.1)
               have HS4_ := (hb.cell (World.block_lt_of_cell? _ _ (hHeld.2.2.2.2.1))).trans (hHeld.2.2.2.2.1)
               have HS5_ := (hb.cell (World.block_lt_of_cell? _ _ (hHeld.2.2.2.2.2))).trans (hHeld.2.2.2.2.2)
               refine ⟨_, rfl, ?_⟩
               have n0_ := Aside0.mk (Kd.R_below (kr HO_5.out) hb)
               have n1_ := Aside0.mk (Kd.R_below (kr HO_6.out) hb)
               have n2_ := Aside0.mk (kb BK136.out hb)
               have n3_ := Aside0.mk (kb BK137.out hb)
               have n4_ := Aside0.mk (below_step bl hb)
               clear HO_5
               clear HO_6
               clear BK136
               clear BK137
               clear HB
               have HO_5 := n0_
               have HO_6 := n1_
               have BK136 := n2_
               have BK137 := n3_
               have HB := n4_
               clear n0_ n1_ n2_ n3_ n4_
               (try clear hb)
               (try clear hb2)
               (try clear hk)
               (try clear hi)
               refine hK.out _ _ ⟨HS0_, HS1_, HS2_, HS3_, HS4_, HS5_⟩ (fun hHeld => ?_)
               clear hK K
               refine norm_ (a' := ?_) ?_ ?_
               rotate_left
               ·show Act.put _ (some 55) _ = _
                simp only [Act.put, List.setIfInBounds_toArray, List.set_cons_zero, List.set_cons_succ, i64_w, i32_w]
                rfl
               refine one_ (i := 19) (N := some 59) #[true, true, true, true, true, true, true, true, true, true, true, true, true, true, true, true, true, true, true, true, true, true, true, false, true, true, true, false, false, false] rfl rfl (one_of HT_.out (by kernel_rfl)) (by decide) (fun K hK => ?_)
               refine goes_ Tryd.func62 (by kernel_rfl) rfl #[.string (rdOf ByteArray.empty t143 0), .int .i64 2, .int .i64 2] (by rfl) rfl rfl ml ?_
               with_reducible refine (stamp_number.calls (rdOf ByteArray.empty t143 0) 2 2 t157 _ A37.out).mono ?_
               rintro e w47 ⟨rfl, hb⟩
               have HS0_ := (hb.cell (World.block_lt_of_cell? _ _ (hHeld.1))).trans (hHeld.1)
               have HS1_ := (hb.cell (World.block_lt_of_cell? _ _ (hHeld.2.1))).trans (hHeld.2.1)
               have HS2_ := (hb.cell (World.block_lt_of_cell? _ _ (hHeld.2.2.1))).trans (hHeld.2.2.1)
               have HS3_ := (hb.cell (World.block_lt_of_cell? _ _ (hHeld.2.2.2.1))).trans (hHeld.2.2.2.1)
               have HS4_ := (hb.cell (World.block_lt_of_cell? _ _ (hHeld.2.2.2.2.1))).trans (hHeld.2.2.2.2.1)
               have HS5_ := (hb.cell (World.block_lt_of_cell? _ _ (hHeld.2.2.2.2.2))).trans (hHeld.2.2.2.2.2)
               refine ⟨_, rfl, ?_⟩
               have n0_ := Aside0.mk (Kd.R_below (kr HO_5.out) hb)
               have n1_ := Aside0.mk (Kd.R_below (kr HO_6.out) hb)
               have n2_ := Aside0.mk (kb BK136.out hb)
               have n3_ := Aside0.mk (kb BK137.out hb)
               have n4_ := Aside0.mk (below_step bl hb)
               clear HO_5
               clear HO_6
               clear BK136
               clear BK137
               clear HB
               have HO_5 := n0_
               have HO_6 := n1_
               have BK136 := n2_
               have BK137 := n3_
               have HB := n4_
               clear n0_ n1_ n2_ n3_ n4_
               (try clear hb)
               (try clear hb2)
               (try clear hk)
               (try clear hi)
               refine hK.out _ _ ⟨HS0_, HS1_, HS2_, HS3_, HS4_, HS5_⟩ (fun hHeld => ?_)
               clear hK K
               refine norm_ (a' := ?_) ?_ ?_
               rotate_left
               ·show Act.put _ (some 59) _ = _
                simp only [Act.put, List.setIfInBounds_toArray, List.set_cons_zero, List.set_cons_succ, i64_w, i32_w]
                rfl
               refine one_ (i := 23) (N := some 63) #[true, true, true, true, true, true, true, true, true, true, true, true, true, true, true, true, true, true, true, true, true, true, true, true, true, true, true, false, false, false] rfl rfl (one_of HT_.out (by kernel_rfl)) (by decide) (fun K hK => ?_)
               refine goes_ Tryd.func62 (by kernel_rfl) rfl #[.string (rdOf ByteArray.empty t143 1), .int .i64 2, .int .i64 2] (by rfl) rfl rfl ml ?_
               with_reducible refine (stamp_number.calls (rdOf ByteArray.empty t143 1) 2 2 t159 _ A39.out).mono ?_
               rintro e w48 ⟨rfl, hb⟩
               have HS0_ := (hb.cell (World.block_lt_of_cell? _ _ (hHeld.1))).trans (hHeld.1)
               have HS1_ := (hb.cell (World.block_lt_of_cell? _ _ (hHeld.2.1))).trans (hHeld.2.1)
               have HS2_ := (hb.cell (World.block_lt_of_cell? _ _ (hHeld.2.2.1))).trans (hHeld.2.2.1)
               have HS3_ := (hb.cell (World.block_lt_of_cell? _ _ (hHeld.2.2.2.1))).trans (hHeld.2.2.2.1)
               have HS4_ := (hb.cell (World.block_lt_of_cell? _ _ (hHeld.2.2.2.2.1))).trans (hHeld.2.2.2.2.1)
               have HS5_ := (hb.cell (World.block_lt_of_cell? _ _ (hHeld.2.2.2.2.2))).trans (hHeld.2.2.2.2.2)
               refine ⟨_, rfl, ?_⟩
               have n0_ := Aside0.mk (Kd.R_below (kr HO_5.out) hb)
               have n1_ := Aside0.mk (Kd.R_below (kr HO_6.out) hb)
               have n2_ := Aside0.mk (kb BK136.out hb)
               have n3_ := Aside0.mk (kb BK137.out hb)
               have n4_ := Aside0.mk (below_step bl hb)
               clear HO_5
               clear HO_6
               clear BK136
               clear BK137
               clear HB
               have HO_5 := n0_
               have HO_6 := n1_
               have BK136 := n2_
               have BK137 := n3_
               have HB := n4_
               clear n0_ n1_ n2_ n3_ n4_
               (try clear hb)
               (try clear hb2)
               (try clear hk)
               (try clear hi)
               refine hK.out _ _ ⟨HS0_, HS1_, HS2_, HS3_, HS4_, HS5_⟩ (fun hHeld => ?_)
               clear hK K
               refine norm_ (a' := ?_) ?_ ?_
               rotate_left
               ·show Act.put _ (some 63) _ = _
                simp only [Act.put, List.setIfInBounds_toArray, List.set_cons_zero, List.set_cons_succ, i64_w, i32_w]
                rfl
               refine one_ (i := 27) (N := some 67) #[true, true, true, true, true, true, true, true, true, true, true, true, true, true, true, true, true, true, true, true, true, true, true, true, true, true, true, true, false, false] rfl rfl (one_of HT_.out (by kernel_rfl)) (by decide) (fun K hK => ?_)
               refine goes_ Tryd.func62 (by kernel_rfl) rfl #[.string (rdOf ByteArray.empty t143 2), .int .i64 2, .int .i64 2] (by rfl) rfl rfl ml ?_
               with_reducible refine (stamp_number.calls (rdOf ByteArray.empty t143 2) 2 2 t161 _ A41.out).mono ?_
               rintro e w49 ⟨rfl, hb⟩
               have HS0_ := (hb.cell (World.block_lt_of_cell? _ _ (hHeld.1))).trans (hHeld.1)
               have HS1_ := (hb.cell (World.block_lt_of_cell? _ _ (hHeld.2.1))).trans (hHeld.2.1)
               have HS2_ := (hb.cell (World.block_lt_of_cell? _ _ (hHeld.2.2.1))).trans (hHeld.2.2.1)
               have HS3_ := (hb.cell (World.block_lt_of_cell? _ _ (hHeld.2.2.2.1))).trans (hHeld.2.2.2.1)
               have HS4_ := (hb.cell (World.block_lt_of_cell? _ _ (hHeld.2.2.2.2.1))).trans (hHeld.2.2.2.2.1)
               have HS5_ := (hb.cell (World.block_lt_of_cell? _ _ (hHeld.2.2.2.2.2))).trans (hHeld.2.2.2.2.2)
               refine ⟨_, rfl, ?_⟩
               have n0_ := Aside0.mk (Kd.R_below (kr HO_5.out) hb)
               have n1_ := Aside0.mk (Kd.R_below (kr HO_6.out) hb)
               have n2_ := Aside0.mk (kb BK136.out hb)
               have n3_ := Aside0.mk (kb BK137.out hb)
               have n4_ := Aside0.mk (below_step bl hb)
               clear HO_5
               clear HO_6
               clear BK136
               clear BK137
               clear HB
               have HO_5 := n0_
               have HO_6 := n1_
               have BK136 := n2_
               have BK137 := n3_
               have HB := n4_
               clear n0_ n1_ n2_ n3_ n4_
               (try clear hb)
               (try clear hb2)
               (try clear hk)
               (try clear hi)
               refine hK.out _ _ ⟨HS0_, HS1_, HS2_, HS3_, HS4_, HS5_⟩ (fun hHeld => ?_)
               clear hK K
               refine norm_ (a' := ?_) ?_ ?_
               rotate_left
               ·show Act.put _ (some 67) _ = _
                simp only [Act.put, List.setIfInBounds_toArray, List.set_cons_zero, List.set_cons_succ, i64_w, i32_w]
                rfl
               refine pure_ (i := 28) (N := some 68) (v := ?_) (a' := ?_) #[true, true, true, true, true, true, true, true, true, true, true, true, true, true, true, true, true, true, true, true, true, true, true, true, true, true, true, true, true, false] rfl rfl (any_of HT_.out (by kernel_rfl)) (fun _ _ _ h => h) (Or.inl ⟨by rfl, ?_⟩) ?_ ?_
               rotate_left
               ·intro w'
                go_simp
                with_reducible rfl
               rotate_left
               ·simp only [Act.put, List.setIfInBounds_toArray, List.set_cons_zero, List.set_cons_succ, i64_w, i32_w]
                rfl
               refine one_ (i := 29) (N := none) #[true, true, true, true, true, true, true, true, true, true, true, true, true, true, true, true, true, true, true, true, true, true, true, true, true, true, true, true, true, true] rfl rfl (one_of HT_.out (by kernel_rfl)) (by decide) (fun K hK => ?_)
               have hs50 : w49.cell? ⟨gb137, 0, none⟩ = some (.int .i64 0) := (blk_cell BK137.out 0).trans rfl
               have hfs50 := blk_frozen BK137.out 0
               have hns50_0 := NB136_137.out
               have hms50_0 := NB137_136.out
               have hs51 : w49.cell? ⟨gb137, 1, none⟩ = some (.int .i64 0) := (blk_cell BK137.out 1).trans rfl
               have hfs51 := blk_frozen BK137.out 1
               have hns51_0 := NB136_137.out
               have hms51_0 := NB137_136.out
               have hs52 : w49.cell? ⟨gb137, 2, none⟩ = some (.int .i64 0) := (blk_cell BK137.out 2).trans rfl
               have hfs52 := blk_frozen BK137.out 2
               have hns52_0 := NB136_137.out
               have hms52_0 := NB137_136.out
               have hs53 : w49.cell? ⟨gb137, 3, none⟩ = some (.int .i64 0) := (blk_cell BK137.out 3).trans rfl
               have hfs53 := blk_frozen BK137.out 3
               have hns53_0 := NB136_137.out
               have hms53_0 := NB137_136.out
               have hs54 : w49.cell? ⟨gb137, 4, none⟩ = some (.int .i64 0) := (blk_cell BK137.out 4).trans rfl
               have hfs54 := blk_frozen BK137.out 4
               have hns54_0 := NB136_137.out
               have hms54_0 := NB137_136.out
               have hs55 : w49.cell? ⟨gb137, 5, none⟩ = some (.int .i64 0) := (blk_cell BK137.out 5).trans rfl
               have hfs55 := blk_frozen BK137.out 5
               have hns55_0 := NB136_137.out
               have hms55_0 := NB137_136.out
               have hs56 : w49.cell? ⟨gb137, 6, none⟩ = some (.int .i64 0) := (blk_cell BK137.out 6).trans rfl
               have hfs56 := blk_frozen BK137.out 6
               have hns56_0 := NB136_137.out
               have hms56_0 := NB137_136.out
               refine skip_ (w1 := (((((((w49.setCell ⟨gb137, 0, none⟩ (.int .i64 t149)).setCell ⟨gb137, 1, none⟩ (.int .i64 t151)).setCell ⟨gb137, 2, none⟩ (.int .i64 t153)).setCell ⟨gb137, 3, none⟩ (.int .i64 t155)).setCell ⟨gb137, 4, none⟩ (.int .i64 t157)).setCell ⟨gb137, 5, none⟩ (.int .i64 t159)).setCell ⟨gb137, 6, none⟩ (.int .i64 t161))) (by rfl) rfl (store_arr7 BK137.out (by rfl) (by rfl) (by rfl) (by kernel_rfl) (by rfl)) ?_
               have hfar0_ := Kd.own_blk (Kd.R_ne HO_5.out BK137.out (by decide))
               have hfar1_ := Kd.own_blk (Kd.R_ne HO_6.out BK137.out (by decide))
               refine hK.out _ _ ⟨far7 (by exact hfar0_) hHeld.1, far7 (by exact hfar0_) hHeld.2.1, far7 (by exact hfar0_) hHeld.2.2.1, far7 (by exact hfar1_) hHeld.2.2.2.1, far7 (by exact hfar1_) hHeld.2.2.2.2.1, far7 (by exact hfar1_) hHeld.2.2.2.2.2⟩ (fun hHeld => ?_)
               clear hK K
               refine done_ (done_of HT_.out (by kernel_rfl)) ?_
               try go_wp2
               have n0_ : Aside0 (Kd.R Kd.string 9 (((((((w49.setCell ⟨gb137, 0, none⟩ (.int .i64 t149)).setCell ⟨gb137, 1, none⟩ (.int .i64 t151)).setCell ⟨gb137, 2, none⟩ (.int .i64 t153)).setCell ⟨gb137, 3, none⟩ (.int .i64 t155)).setCell ⟨gb137, 4, none⟩ (.int .i64 t157)).setCell ⟨gb137, 5, none⟩ (.int .i64 t159)).setCell ⟨gb137, 6, none⟩ (.int .i64 t161)) w.heap.size (fun k_ => some k_ ≠ (.slice (some ad156) t143.length co44 : Value).ownBlock) (.slice (some ad142) t138.length co20) t138) := ⟨by (with_reducible repeat (first | apply Kd.R_alloc | apply Kd.R_drewN | apply Kd.R_drew)); exact Kd.R_mono (Kd.R_far (p := ⟨gb137, 6, none⟩) (Kd.R_far (p := ⟨gb137, 5, none⟩) (Kd.R_far (p := ⟨gb137, 4, none⟩) (Kd.R_far (p := ⟨gb137, 3, none⟩) (Kd.R_far (p := ⟨gb137, 2, none⟩) (Kd.R_far (p := ⟨gb137, 1, none⟩) (Kd.R_far (p := ⟨gb137, 0, none⟩) (Kd.R_types HO_5.out BK137.out (by decide)) (fun _ hk => hk.2) (.int .i64 t149)) (fun _ hk => hk.2) (.int .i64 t151)) (fun _ hk => hk.2) (.int .i64 t153)) (fun _ hk => hk.2) (.int .i64 t155)) (fun _ hk => hk.2) (.int .i64 t157)) (fun _ hk => hk.2) (.int .i64 t159)) (fun _ hk => hk.2) (.int .i64 t161)) (fun _ hk => hk.1)⟩
               have n1_ : Aside0 (Kd.R Kd.string 9 (((((((w49.setCell ⟨gb137, 0, none⟩ (.int .i64 t149)).setCell ⟨gb137, 1, none⟩ (.int .i64 t151)).setCell ⟨gb137, 2, none⟩ (.int .i64 t153)).setCell ⟨gb137, 3, none⟩ (.int .i64 t155)).setCell ⟨gb137, 4, none⟩ (.int .i64 t157)).setCell ⟨gb137, 5, none⟩ (.int .i64 t159)).setCell ⟨gb137, 6, none⟩ (.int .i64 t161)) w.heap.size (fun k_ => some k_ ≠ (.slice (some ad142) t138.length co20 : Value).ownBlock) (.slice (some ad156) t143.length co44) t143) := ⟨by (with_reducible repeat (first | apply Kd.R_alloc | apply Kd.R_drewN | apply Kd.R_drew)); exact Kd.R_mono (Kd.R_far (p := ⟨gb137, 6, none⟩) (Kd.R_far (p := ⟨gb137, 5, none⟩) (Kd.R_far (p := ⟨gb137, 4, none⟩) (Kd.R_far (p := ⟨gb137, 3, none⟩) (Kd.R_far (p := ⟨gb137, 2, none⟩) (Kd.R_far (p := ⟨gb137, 1, none⟩) (Kd.R_far (p := ⟨gb137, 0, none⟩) (Kd.R_types HO_6.out BK137.out (by decide)) (fun _ hk => hk.2) (.int .i64 t149)) (fun _ hk => hk.2) (.int .i64 t151)) (fun _ hk => hk.2) (.int .i64 t153)) (fun _ hk => hk.2) (.int .i64 t155)) (fun _ hk => hk.2) (.int .i64 t157)) (fun _ hk => hk.2) (.int .i64 t159)) (fun _ hk => hk.2) (.int .i64 t161)) (fun _ hk => hk.1)⟩
               have n2_ : Aside0 ((((((((w49.setCell ⟨gb137, 0, none⟩ (.int .i64 t149)).setCell ⟨gb137, 1, none⟩ (.int .i64 t151)).setCell ⟨gb137, 2, none⟩ (.int .i64 t153)).setCell ⟨gb137, 3, none⟩ (.int .i64 t155)).setCell ⟨gb137, 4, none⟩ (.int .i64 t157)).setCell ⟨gb137, 5, none⟩ (.int .i64 t159)).setCell ⟨gb137, 6, none⟩ (.int .i64 t161)).heap[gb136]? = some (.cells #[.int .i64 0, .int .i64 0, .int .i64 0, .int .i64 0, .int .i64 0, .int .i64 0, .int .i64 0] 70 (0, 0))) := ⟨by (with_reducible repeat (first | refine blk_drewN ?_ _ | refine blk_drew ?_ | refine blk_alloc ?_ _)); refine blk_far ?_ NB136_137.out _; (with_reducible repeat (first | refine blk_drewN ?_ _ | refine blk_drew ?_ | refine blk_alloc ?_ _)); refine blk_far ?_ NB136_137.out _; (with_reducible repeat (first | refine blk_drewN ?_ _ | refine blk_drew ?_ | refine blk_alloc ?_ _)); refine blk_far ?_ NB136_137.out _; (with_reducible repeat (first | refine blk_drewN ?_ _ | refine blk_drew ?_ | refine blk_alloc ?_ _)); refine blk_far ?_ NB136_137.out _; (with_reducible repeat (first | refine blk_drewN ?_ _ | refine blk_drew ?_ | refine blk_alloc ?_ _)); refine blk_far ?_ NB136_137.out _; (with_reducible repeat (first | refine blk_drewN ?_ _ | refine blk_drew ?_ | refine blk_alloc ?_ _)); refine blk_far ?_ NB136_137.out _; (with_reducible repeat (first | refine blk_drewN ?_ _ | refine blk_drew ?_ | refine blk_alloc ?_ _)); refine blk_far ?_ NB136_137.out _; (with_reducible repeat (first | refine blk_drewN ?_ _ | refine blk_drew ?_ | refine blk_alloc ?_ _)); exact BK136.out⟩
               have n3_ : Aside0 ((((((((w49.setCell ⟨gb137, 0, none⟩ (.int .i64 t149)).setCell ⟨gb137, 1, none⟩ (.int .i64 t151)).setCell ⟨gb137, 2, none⟩ (.int .i64 t153)).setCell ⟨gb137, 3, none⟩ (.int .i64 t155)).setCell ⟨gb137, 4, none⟩ (.int .i64 t157)).setCell ⟨gb137, 5, none⟩ (.int .i64 t159)).setCell ⟨gb137, 6, none⟩ (.int .i64 t161)).heap[gb137]? = some (.cells #[.int .i64 t149, .int .i64 t151, .int .i64 t153, .int .i64 t155, .int .i64 t157, .int .i64 t159, .int .i64 t161] 70 (0, 0))) := ⟨by (with_reducible repeat (first | refine blk_drewN ?_ _ | refine blk_drew ?_ | refine blk_alloc ?_ _)); refine blk_put (cs := #[.int .i64 t149, .int .i64 t151, .int .i64 t153, .int .i64 t155, .int .i64 t157, .int .i64 t159, .int .i64 0]) ?_ 6 _ rfl; (with_reducible repeat (first | refine blk_drewN ?_ _ | refine blk_drew ?_ | refine blk_alloc ?_ _)); refine blk_put (cs := #[.int .i64 t149, .int .i64 t151, .int .i64 t153, .int .i64 t155, .int .i64 t157, .int .i64 0, .int .i64 0]) ?_ 5 _ rfl; (with_reducible repeat (first | refine blk_drewN ?_ _ | refine blk_drew ?_ | refine blk_alloc ?_ _)); refine blk_put (cs := #[.int .i64 t149, .int .i64 t151, .int .i64 t153, .int .i64 t155, .int .i64 0, .int .i64 0, .int .i64 0]) ?_ 4 _ rfl; (with_reducible repeat (first | refine blk_drewN ?_ _ | refine blk_drew ?_ | refine blk_alloc ?_ _)); refine blk_put (cs := #[.int .i64 t149, .int .i64 t151, .int .i64 t153, .int .i64 0, .int .i64 0, .int .i64 0, .int .i64 0]) ?_ 3 _ rfl; (with_reducible repeat (first | refine blk_drewN ?_ _ | refine blk_drew ?_ | refine blk_alloc ?_ _)); refine blk_put (cs := #[.int .i64 t149, .int .i64 t151, .int .i64 0, .int .i64 0, .int .i64 0, .int .i64 0, .int .i64 0]) ?_ 2 _ rfl; (with_reducible repeat (first | refine blk_drewN ?_ _ | refine blk_drew ?_ | refine blk_alloc ?_ _)); refine blk_put (cs := #[.int .i64 t149, .int .i64 0, .int .i64 0, .int .i64 0, .int .i64 0, .int .i64 0, .int .i64 0]) ?_ 1 _ rfl; (with_reducible repeat (first | refine blk_drewN ?_ _ | refine blk_drew ?_ | refine blk_alloc ?_ _)); refine blk_put (cs := #[.int .i64 0, .int .i64 0, .int .i64 0, .int .i64 0, .int .i64 0, .int .i64 0, .int .i64 0]) ?_ 0 _ rfl; (with_reducible repeat (first | refine blk_drewN ?_ _ | refine blk_drew ?_ | refine blk_alloc ?_ _)); exact BK137.out⟩
               have n4_ : Aside0 (Below w.heap.size w (((((((w49.setCell ⟨gb137, 0, none⟩ (.int .i64 t149)).setCell ⟨gb137, 1, none⟩ (.int .i64 t151)).setCell ⟨gb137, 2, none⟩ (.int .i64 t153)).setCell ⟨gb137, 3, none⟩ (.int .i64 t155)).setCell ⟨gb137, 4, none⟩ (.int .i64 t157)).setCell ⟨gb137, 5, none⟩ (.int .i64 t159)).setCell ⟨gb137, 6, none⟩ (.int .i64 t161))) := ⟨by repeat (first | (with_reducible first | exact HB.out | apply below_alloc | apply pw_below_drewN | apply below_drew1 | refine below_set ?_ GE136.out | refine below_set ?_ GE137.out) | exact HB.out)⟩
               (try clear HO_5)
               (try clear HO_6)
               (try clear BK136)
               (try clear BK137)
               (try clear HB)
               generalize (((((((w49.setCell ⟨gb137, 0, none⟩ (.int .i64 t149)).setCell ⟨gb137, 1, none⟩ (.int .i64 t151)).setCell ⟨gb137, 2, none⟩ (.int .i64 t153)).setCell ⟨gb137, 3, none⟩ (.int .i64 t155)).setCell ⟨gb137, 4, none⟩ (.int .i64 t157)).setCell ⟨gb137, 5, none⟩ (.int .i64 t159)).setCell ⟨gb137, 6, none⟩ (.int .i64 t161)) = w57 at n0_ n1_ n2_ n3_ n4_ ⊢
               have HO_5 := n0_
               have HO_6 := n1_
               have BK136 := n2_
               have BK137 := n3_
               have HB := n4_
               clear n0_ n1_ n2_ n3_ n4_
               have n0_ := Aside0.mk (Kd.R_drew HO_5.out)
               have n1_ := Aside0.mk (Kd.R_drew HO_6.out)
               have n2_ := Aside0.mk (blk_drew BK136.out)
               have n3_ := Aside0.mk (blk_drew BK137.out)
               have n4_ := Aside0.mk (below_drew1 HB.out)
               clear HO_5
               clear HO_6
               clear BK136
               clear BK137
               clear HB
               have HO_5 := n0_
               have HO_6 := n1_
               have BK136 := n2_
               have BK137 := n3_
               have HB := n4_
               clear n0_ n1_ n2_ n3_ n4_
               refine start_ (n := 6) (S := fun w' => w'.cell? ⟨gb137, 0, none⟩ = some (.int .i64 t149) ∧ w'.cell? ⟨gb137, 1, none⟩ = some (.int .i64 t151) ∧ w'.cell? ⟨gb137, 2, none⟩ = some (.int .i64 t153) ∧ w'.cell? ⟨gb137, 3, none⟩ = some (.int .i64 t155) ∧ w'.cell? ⟨gb137, 4, none⟩ = some (.int .i64 t157) ∧ w'.cell? ⟨gb137, 5, none⟩ = some (.int .i64 t159) ∧ w'.cell? ⟨gb137, 6, none⟩ = some (.int .i64 t161)) (ds := []) #[false, false, false, false, false, false] (by kernel_rfl) rfl rfl ⟨(blk_cell BK137.out 0).trans rfl, (blk_cell BK137.out 1).trans rfl, (blk_cell BK137.out 2).trans rfl, (blk_cell BK137.out 3).trans rfl, (blk_cell BK137.out 4).trans rfl, (blk_cell BK137.out 5).trans rfl, (blk_cell BK137.out 6).trans rfl⟩ (fun hHeld => ?_)
               generalize w57.drew = w58 at HO_5 HO_6 BK136 BK137 HB hHeld ⊢
               refine pure_ (i := 1) (N := some 70) (v := ?_) (a' := ?_) #[false, true, false, false, false, false] rfl rfl (by kernel_rfl) (fun _ _ _ h => h) (Or.inl ⟨by rfl, ?_⟩) ?_ ?_
               rotate_left
               ·intro w'
                go_simp
                with_reducible rfl
               rotate_left
               ·simp only [Act.put, List.setIfInBounds_toArray, List.set_cons_zero, List.set_cons_succ, i64_w, i32_w]
                rfl
               refine take_ (i := 0) (N := some 69) (v := ?_) (a' := ?_) #[true, true, false, false, false, false] rfl rfl (by kernel_rfl) (fun _ _ _ h => h) (Or.inl ⟨by rfl, ?_⟩) hHeld ?_ ?_
               rotate_left
               ·rintro w' ⟨s0, s1, s2, s3, s4, s5, s6⟩
                go_simp
                with_reducible rfl
               rotate_left
               ·simp only [Act.put, List.setIfInBounds_toArray, List.set_cons_zero, List.set_cons_succ, i64_w, i32_w]
                rfl
               refine one_ (i := 2) (N := some 71) #[true, true, true, false, false, false] rfl rfl (by kernel_rfl) (by decide) (fun K hK => ?_)
               refine goes_ Tryd.func63 (by kernel_rfl) rfl #[.slice (some ⟨gb137, 0, none⟩) 7 7, .func (.func 64) #[] #[]] (by rfl) rfl rfl ml ?_
               refine (slices_ContainsFunc_int64_int64__stamp_parts_1.calls _ _ [t149, t151, t153, t155, t157, t159, t161] t162 _ ?side1 ?side2 A42.out).mono ?_
               (case side1 => exact arr_C (g := gb137) [t149, t151, t153, t155, t157, t159, t161] (bk BK137.out) (by simp))
               (case side2 => exact Nat.le_refl _)
               rintro e w59 ⟨rfl, hb⟩
               refine ⟨_, rfl, ?_⟩
               have n0_ := Aside0.mk (Kd.R_below (kr HO_5.out) hb)
               have n1_ := Aside0.mk (Kd.R_below (kr HO_6.out) hb)
               have n2_ := Aside0.mk (kb BK136.out hb)
               have n3_ := Aside0.mk (kb BK137.out hb)
               have n4_ := Aside0.mk (below_step bl hb)
               clear HO_5
               clear HO_6
               clear BK136
               clear BK137
               clear HB
               have HO_5 := n0_
               have HO_6 := n1_
               have BK136 := n2_
               have BK137 := n3_
               have HB := n4_
               clear n0_ n1_ n2_ n3_ n4_
               (try clear hb)
               (try clear hb2)
               (try clear hk)
               (try clear hi)
               refine hK.out _ _ ⟨(blk_cell BK137.out 0).trans rfl, (blk_cell BK137.out 1).trans rfl, (blk_cell BK137.out 2).trans rfl, (blk_cell BK137.out 3).trans rfl, (blk_cell BK137.out 4).trans rfl, (blk_cell BK137.out 5).trans rfl, (blk_cell BK137.out 6).trans rfl⟩ (fun hHeld => ?_)
               clear hK K
               refine norm_ (a' := ?_) ?_ ?_
               rotate_left
               ·show Act.put _ (some 71) _ = _
                simp only [Act.put, List.setIfInBounds_toArray, List.set_cons_zero, List.set_cons_succ, i64_w, i32_w]
                rfl
               refine pure_ (i := 3) (N := some 72) (v := ?_) (a' := ?_) #[true, true, true, true, false, false] rfl rfl (by kernel_rfl) (fun _ _ _ h => h) (Or.inl ⟨by rfl, ?_⟩) ?_ ?_
               rotate_left
               ·intro w'
                go_simp
                with_reducible rfl
               rotate_left
               ·simp only [Act.put, List.setIfInBounds_toArray, List.set_cons_zero, List.set_cons_succ, i64_w, i32_w]
                rfl
               refine one_ (i := 4) (N := none) #[true, true, true, true, true, false] rfl rfl (by kernel_rfl) (by decide) (fun K hK => ?_)
               have hs60 : w59.cell? ⟨gb136, 0, none⟩ = some (.int .i64 0) := (blk_cell BK136.out 0).trans rfl
               have hfs60 := blk_frozen BK136.out 0
               have hns60_1 := NB137_136.out
               have hms60_1 := NB136_137.out
               have hs61 : w59.cell? ⟨gb136, 1, none⟩ = some (.int .i64 0) := (blk_cell BK136.out 1).trans rfl
               have hfs61 := blk_frozen BK136.out 1
               have hns61_1 := NB137_136.out
               have hms61_1 := NB136_137.out
               have hs62 : w59.cell? ⟨gb136, 2, none⟩ = some (.int .i64 0) := (blk_cell BK136.out 2).trans rfl
               have hfs62 := blk_frozen BK136.out 2
               have hns62_1 := NB137_136.out
               have hms62_1 := NB136_137.out
               have hs63 : w59.cell? ⟨gb136, 3, none⟩ = some (.int .i64 0) := (blk_cell BK136.out 3).trans rfl
               have hfs63 := blk_frozen BK136.out 3
               have hns63_1 := NB137_136.out
               have hms63_1 := NB136_137.out
               have hs64 : w59.cell? ⟨gb136, 4, none⟩ = some (.int .i64 0) := (blk_cell BK136.out 4).trans rfl
               have hfs64 := blk_frozen BK136.out 4
               have hns64_1 := NB137_136.out
               have hms64_1 := NB136_137.out
               have hs65 : w59.cell? ⟨gb136, 5, none⟩ = some (.int .i64 0) := (blk_cell BK136.out 5).trans rfl
               have hfs65 := blk_frozen BK136.out 5
               have hns65_1 := NB137_136.out
               have hms65_1 := NB136_137.out
               have hs66 : w59.cell? ⟨gb136, 6, none⟩ = some (.int .i64 0) := (blk_cell BK136.out 6).trans rfl
               have hfs66 := blk_frozen BK136.out 6
               have hns66_1 := NB137_136.out
               have hms66_1 := NB136_137.out
               refine skip_ (w1 := (((((((w59.setCell ⟨gb136, 0, none⟩ (.int .i64 t149)).setCell ⟨gb136, 1, none⟩ (.int .i64 t151)).setCell ⟨gb136, 2, none⟩ (.int .i64 t153)).setCell ⟨gb136, 3, none⟩ (.int .i64 t155)).setCell ⟨gb136, 4, none⟩ (.int .i64 t157)).setCell ⟨gb136, 5, none⟩ (.int .i64 t159)).setCell ⟨gb136, 6, none⟩ (.int .i64 t161))) (by rfl) rfl (store_arr7 BK136.out (by rfl) (by rfl) (by rfl) (by kernel_rfl) (by rfl)) ?_
               refine hK.out _ _ ⟨far7 NB137_136.out hHeld.1, far7 NB137_136.out hHeld.2.1, far7 NB137_136.out hHeld.2.2.1, far7 NB137_136.out hHeld.2.2.2.1, far7 NB137_136.out hHeld.2.2.2.2.1, far7 NB137_136.out hHeld.2.2.2.2.2.1, far7 NB137_136.out hHeld.2.2.2.2.2.2⟩ (fun hHeld => ?_)
               clear hK K
               refine pure_ (i := 5) (N := some 3) (v := ?_) (a' := ?_) #[true, true, true, true, true, true] rfl rfl (by kernel_rfl) (fun _ _ _ h => h) (Or.inl ⟨by rfl, ?_⟩) ?_ ?_
               rotate_left
               ·intro w'
                go_simp
                with_reducible rfl
               rotate_left
               ·simp only [Act.put, List.setIfInBounds_toArray, List.set_cons_zero, List.set_cons_succ, i64_w, i32_w]
                rfl
               refine done_ (by kernel_rfl) ?_
               try go_wp2
               refine bodyPost_ret (results_ct rfl _ _ gb136 70 #[.int .i64 t149, .int .i64 t151, .int .i64 t153, .int .i64 t155, .int .i64 t157, .int .i64 t159, .int .i64 t161] (0, 0) _ rfl (by (with_reducible repeat (first | refine blk_drewN ?_ _ | refine blk_drew ?_ | refine blk_alloc ?_ _)); refine blk_put (cs := #[.int .i64 t149, .int .i64 t151, .int .i64 t153, .int .i64 t155, .int .i64 t157, .int .i64 t159, .int .i64 0]) ?_ 6 _ rfl; (with_reducible repeat (first | refine blk_drewN ?_ _ | refine blk_drew ?_ | refine blk_alloc ?_ _)); refine blk_put (cs := #[.int .i64 t149, .int .i64 t151, .int .i64 t153, .int .i64 t155, .int .i64 t157, .int .i64 0, .int .i64 0]) ?_ 5 _ rfl; (with_reducible repeat (first | refine blk_drewN ?_ _ | refine blk_drew ?_ | refine blk_alloc ?_ _)); refine blk_put (cs := #[.int .i64 t149, .int .i64 t151, .int .i64 t153, .int .i64 t155, .int .i64 0, .int .i64 0, .int .i64 0]) ?_ 4 _ rfl; (with_reducible repeat (first | refine blk_drewN ?_ _ | refine blk_drew ?_ | refine blk_alloc ?_ _)); refine blk_put (cs := #[.int .i64 t149, .int .i64 t151, .int .i64 t153, .int .i64 0, .int .i64 0, .int .i64 0, .int .i64 0]) ?_ 3 _ rfl; (with_reducible repeat (first | refine blk_drewN ?_ _ | refine blk_drew ?_ | refine blk_alloc ?_ _)); refine blk_put (cs := #[.int .i64 t149, .int .i64 t151, .int .i64 0, .int .i64 0, .int .i64 0, .int .i64 0, .int .i64 0]) ?_ 2 _ rfl; (with_reducible repeat (first | refine blk_drewN ?_ _ | refine blk_drew ?_ | refine blk_alloc ?_ _)); refine blk_put (cs := #[.int .i64 t149, .int .i64 0, .int .i64 0, .int .i64 0, .int .i64 0, .int .i64 0, .int .i64 0]) ?_ 1 _ rfl; (with_reducible repeat (first | refine blk_drewN ?_ _ | refine blk_drew ?_ | refine blk_alloc ?_ _)); refine blk_put (cs := #[.int .i64 0, .int .i64 0, .int .i64 0, .int .i64 0, .int .i64 0, .int .i64 0, .int .i64 0]) ?_ 0 _ rfl; (with_reducible repeat (first | refine blk_drewN ?_ _ | refine blk_drew ?_ | refine blk_alloc ?_ _)); exact BK136.out) Tryd.underlying70 rfl (by kernel_rfl)) rfl ?_
               exact ⟨by first | rfl | (simp [bneNil]; done) | (simp [errW_none, errW_some] <;> rfl) | (simp [*, errW_none, errW_some] <;> rfl), by repeat (first | (with_reducible first | exact HB.out | apply below_alloc | apply pw_below_drewN | apply below_drew1 | refine below_set ?_ GE136.out | refine below_set ?_ GE137.out) | exact HB.out)⟩
              ·rw [if_neg c40] at H
               exact absurd H (by simp)
             ·rw [if_neg c38] at H
              exact absurd H (by simp)
            ·rw [if_neg c36] at H
             exact absurd H (by simp)
           ·rw [if_neg c34] at H
            exact absurd H (by simp)
          ·rw [if_neg c32] at H
           exact absurd H (by simp)
         ·rw [if_neg c30] at H
          exact absurd H (by simp)
     ·rw [if_neg c17] at H
      exact absurd H (by simp)
    ·rw [if_neg c15] at H
     exact absurd H (by simp)

end Go.Proofs.YtoigafnaoaafeaaDoor.Q
end
