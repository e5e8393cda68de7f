/- Walks of functions. -/
import Derived.Test.YtdciiahlakgikaaDoorProg
import Derived.Below
import Derived.Deep.Draws
import Derived.Deep.AppendLies
import Derived.Maps.AppendAt
import Derived.OwnWalk
import Derived.Laws.BytesArg
import Derived.Laws.MakeOwn
import Derived.Laws.OwnMore
import Derived.Deep.OwnRows
import Derived.Tactics
import Derived.Lib.ConvBytes
import Derived.Laws.Slices
import Derived.WalkKit
import Derived.KernelRfl
import Derived.RowKit3
import Derived.Deep.LoopGhost
import Derived.Deep.QuietTactic
import Derived.BigQuiet
import Derived.WideLaws
import Derived.Deep.DeepCutAuto
import Derived.Deep.CutBlock
import Derived.Deep.RegionHeld3
import Derived.Laws.Rows
import Derived.Lib.AppendStr
import Derived.ArgAppend
import Derived.Laws.IdiomCopy
import Derived.OrdersHeld
import Derived.Laws.BitsLemmas
import Derived.RowKit
import Derived.Laws.RangeString
import Derived.Laws.RangeAny
import Derived.LoopTactic
import Derived.Lib.Hide
import Derived.IntWalk
import Derived.Test.YtdciiahlakgikaaDoorRP
import Derived.Test.YtdciiahlakgikaaDoorMP
import Derived.Test.YtdciiahlakgikaaDoorDR
import Derived.Test.YtdciiahlakgikaaDoorG
import Derived.Test.YtdciiahlakgikaaDoorWS
import Derived.Test.YtdciiahlakgikaaDoorSC
import Derived.Test.YtdciiahlakgikaaDoorBW
import Derived.Test.YtdciiahlakgikaaDoorIT
import Derived.Test.YtdciiahlakgikaaDoorBR
import Derived.Test.YtdciiahlakgikaaDoorRS
import Derived.Test.YtdciiahlakgikaaDoorOP
import Derived.Test.YtdciiahlakgikaaDoorKB
import Derived.Test.YtdciiahlakgikaaDoorV
section
namespace Go.Proofs.YtdciiahlakgikaaDoor.Q
open Go.RowKit Go.Proofs.YtdciiahlakgikaaDoorW.PrintWords Go.Proofs.YtdciiahlakgikaaDoorW.PrintLast Go.Proofs.YtdciiahlakgikaaDoorW.PrintMore
attribute [local go_sem] max2_int min2_int max_two min_two max_three min_three max_four min_four   -- for this text's walks alone
set_option linter.unusedVariables false
set_option linter.unusedSimpArgs false



def errW : Option Int → Value
  | none => .nilIface
  | some c => .iface 0 (.int .i64 c)
theorem errW_none : errW none = .nilIface := rfl
theorem errW_some (c : Int) : errW (some c) = .iface 0 (.int .i64 c) := rfl

theorem info5 : (Tryd.prog.info? 5).map (fun i => (i.zero, i.size, i.bytes)) = some (some (.int .u8 0), 1, 1) := by kernel_rfl
theorem info9 : (Tryd.prog.info? 9).map (fun i => (i.zero, i.size, i.bytes)) = some (some (.string ⟨#[]⟩), 1, 16) := by kernel_rfl
theorem info41 : (Tryd.prog.info? 41).map (fun i => (i.zero, i.size, i.bytes)) = some (some (.agg #[(.string ⟨#[]⟩), (.string ⟨#[]⟩), (.string ⟨#[]⟩)]), 3, 48) := by kernel_rfl
-- the values' own types
/-! #### struct type 41 -/
structure S41 where
  f0 : ByteArray
  f1 : ByteArray
  f2 : ByteArray
def z41 : S41 := ⟨(⟨#[]⟩ : ByteArray), (⟨#[]⟩ : ByteArray), (⟨#[]⟩ : ByteArray)⟩
def k41 : Kd S41 := Kd.iso (Kd.pair Kd.string (Kd.pair Kd.string Kd.string)) (fun x : S41 => (x.f0, x.f1, x.f2))
theorem k41_heap : Kd.Heap k41 := Kd.heap_iso _ (Kd.heap_pair Kd.heap_string (Kd.heap_pair Kd.heap_string Kd.heap_string))
theorem k41_open {w : World} {x : S41} {cs : List Value} (h : k41.K w x cs) : cs = [.string x.f0, .string x.f1, .string x.f2] := by
  obtain ⟨_, _, rfl, rfl, ⟨_, _, rfl, rfl, rfl⟩⟩ := h
  exact rfl
theorem k41_openM {w : World} {base : Nat} {ok : Nat → Prop} {x : S41} {cs : List Value} (h : k41.M w base ok x cs) : cs = [.string x.f0, .string x.f1, .string x.f2] := by
  obtain ⟨_, _, rfl, rfl, ⟨_, _, rfl, rfl, rfl⟩⟩ := h
  exact rfl
theorem k41_mk (w : World) (x : S41)  : k41.K w x [.string x.f0, .string x.f1, .string x.f2] := ⟨[.string x.f0], [.string x.f1, .string x.f2], rfl, rfl, ⟨[.string x.f1], [.string x.f2], rfl, rfl, rfl⟩⟩
theorem k41_mkM (w : World) (base : Nat) (ok : Nat → Prop) (x : S41)  : k41.M w base ok x [.string x.f0, .string x.f1, .string x.f2] := ⟨[.string x.f0], [.string x.f1, .string x.f2], rfl, rfl, ⟨[.string x.f1], [.string x.f2], rfl, rfl, rfl⟩⟩
theorem k41_mkF (W : World) (ok : Nat → Prop) (x : S41) : Kd.FK k41 W ok x [.string x.f0, .string x.f1, .string x.f2] := fun W2 _ => k41_mk W2 x
def rd_T41 (xs : List S41) (i : Int) : S41 := xs.getD i.toNat z41
theorem at_T41 {w : World} {A : Option Addr} {n : Nat} {xs : List S41} (h : Kd.C k41 w A n xs) (i : Int) (h0 : 0 ≤ i) (h1 : i < n) : ∃ ad , A = some ad ∧ w.cell? (ad.add (i.toNat * 3)) = some (.string (rd_T41 xs i).f0) ∧ w.cell? ⟨(ad.add (i.toNat * 3)).block, (ad.add (i.toNat * 3)).off + 1, none⟩ = some (.string (rd_T41 xs i).f1) ∧ w.cell? ⟨(ad.add (i.toNat * 3)).block, (ad.add (i.toNat * 3)).off + 2, none⟩ = some (.string (rd_T41 xs i).f2) := by
  obtain ⟨ad, c, e, _, hK, hc0⟩ := Kd.C_get h z41 i h0 h1
  have hc : ∀ j u, c[j]? = some u → w.cell? (ad.add (i.toNat * 3 + j)) = some u := hc0
  obtain rfl := k41_open hK
  exact ⟨ad, e, hc 0 _ rfl, by rw [← add_field _ _ 1 (by omega)]; exact hc 1 _ rfl, by rw [← add_field _ _ 2 (by omega)]; exact hc 2 _ rfl⟩

end Go.Proofs.YtdciiahlakgikaaDoor.Q
end
section
namespace Go.Proofs.YtdciiahlakgikaaDoor.Q
open Go.RowKit Go.Proofs.YtdciiahlakgikaaDoorW.PrintWords Go.Proofs.YtdciiahlakgikaaDoorW.PrintLast Go.Proofs.YtdciiahlakgikaaDoorW.PrintMore
attribute [local go_sem] max2_int min2_int max_two min_two max_three min_three max_four min_four   -- for this text's walks alone
set_option linter.unusedVariables false
set_option linter.unusedSimpArgs false

/-! ### strings_Split: function 17 (by hand) -/
def strings_Split.f (a0 a1 : ByteArray) : Option (List ByteArray) := if a0.size < 4294967281 ∧ 1 ≤ a1.size then some (Lib.splitB a1 0 (Lib.countB a0 a1) a0) else none
theorem strings_Split.calls (a0 a1 : ByteArray) (r : List ByteArray) (w : World) (hG : Glob w) (h : strings_Split.f a0 a1 = some r) :
    Calls Tryd.prog 17 #[.string a0, .string a1] w fun e w' => ∃ v0_ : Value, e = .returned (v0_) ∧ Kd.R Kd.string 9 w' w.heap.size (fun _ => True) v0_ r ∧ Below w.heap.size w w' := by
  unfold strings_Split.f at h
  split at h
  · rename_i hs
    obtain rfl := Option.some.inj h
    obtain ⟨m, hm⟩ := hG.mx
    refine (Tryd.strings_Split a0 a1 m w hs.1 hm hs.2).mono ?_
    rintro e w' ⟨rfl, rfl⟩
    have hl := Lib.splitB_all a1 hs.2 0 _ a0 rfl
    have hc := Lib.countB_le a1 hs.2 a0.size a0 (Nat.le_refl _)
    have ho := own_lit_of (enc := Value.string) w w.heap.size 9 (Lib.splitB a1 0 (Lib.countB a0 a1) a0) (Nat.le_refl _) (by rw [hl]; omega)
    refine ⟨_, rfl, Kd.R_of_own ?_ (fun _ _ => trivial), (Below.refl _ _).alloc (Nat.le_refl _) _⟩
    rw [hl] at ho ⊢
    exact ho
  · cases h


/-! ### stringslite_HasSuffix: function 56 -/
def stringslite_HasSuffix.f (a0 : ByteArray) (a1 : ByteArray) : Option (Bool) := if (a0.size : Int) ≥ (a1.size : Int) then (if 0 ≤ (wrap64 ((a0.size : Int) - (a1.size : Int))) then (if (wrap64 ((a0.size : Int) - (a1.size : Int))) ≤ (a0.size : Int) then (some ((a0.extract ((wrap64 ((a0.size : Int) - (a1.size : Int))) : Int).toNat a0.size).toList == a1.toList)) else (none)) else (none)) else (some false)
set_option maxHeartbeats 8000000 in
set_option maxRecDepth 100000 in
theorem stringslite_HasSuffix.calls (a0 : ByteArray) (a1 : ByteArray) (r : Bool) (w : World) (h : stringslite_HasSuffix.f a0 a1 = some r) :
    Calls Tryd.prog 56 #[.string a0, .string a1] w fun e w' => e = .returned (.bool r) ∧ Drawn0 w w' := by
  have H : (if (a0.size : Int) ≥ (a1.size : Int) then (if 0 ≤ (wrap64 ((a0.size : Int) - (a1.size : Int))) then (if (wrap64 ((a0.size : Int) - (a1.size : Int))) ≤ (a0.size : Int) then (some ((a0.extract ((wrap64 ((a0.size : Int) - (a1.size : Int))) : Int).toNat a0.size).toList == a1.toList)) else (none)) else (none)) else (some false)) = some r := h
  clear h
  by_cases c3 : (a0.size : Int) ≥ (a1.size : Int)
  · rw [if_pos c3] at H
    have c3b0 : decide ((a1.size : Int) ≤ (a0.size : Int)) = true := decide_eq_true c3
    have c3b1 : decide (a1.size ≤ a0.size) = true := decide_eq_true (Int.ofNat_le.mp c3)
    clear c3
    obtain ⟨ji4, hji4⟩ : ∃ j_ : Int, (wrap64 ((a0.size : Int) - (a1.size : Int))) = j_ := ⟨_, rfl⟩
    replace H : (if 0 ≤ (ji4) then (if (ji4) ≤ (a0.size : Int) then (some ((a0.extract ((ji4) : Int).toNat a0.size).toList == a1.toList)) else (none)) else (none)) = some r := by first | (rw [hji4] at H; exact H) | (simp only [hji4] at H ⊢; exact H)
    have hji4w : (IntKind.i64.wrap ((a0.size : Int) - (a1.size : Int))) = ji4 := (i64_w _).trans hji4
    by_cases c5 : 0 ≤ (ji4)
    · rw [if_pos c5] at H
      have c5b0 := eq_true c5
      have c5b1 : decide (0 ≤ (ji4)) = true := decide_eq_true c5
      clear c5
      by_cases c6 : (ji4) ≤ (a0.size : Int)
      · rw [if_pos c6] at H
        have c6b0 := eq_true c6
        have c6b1 : decide ((ji4) ≤ (a0.size : Int)) = true := decide_eq_true c6
        clear c6
        obtain rfl := Option.some.inj H
        go_enter Tryd.func56, Tryd.ntmps56
        go_wp2
        go_ret
        exact ⟨by first | rfl | (simp [bneNil]; done) | (simp; done) | (simp only [← hji4] <;> (first | rfl | simp)) | (simp [*]; done), by repeat (first | exact Drawn0.refl _ | apply Drawn0.step)⟩
      · rw [if_neg c6] at H
        exact absurd H (by simp)
    · rw [if_neg c5] at H
      exact absurd H (by simp)
  · rw [if_neg c3] at H
    have c3b0 : decide ((a1.size : Int) ≤ (a0.size : Int)) = false := decide_eq_false c3
    have c3b1 : decide (a1.size ≤ a0.size) = false := decide_eq_false (fun h => c3 (Int.ofNat_le.mpr h))
    clear c3
    obtain rfl := Option.some.inj H
    go_enter Tryd.func56, Tryd.ntmps56
    go_wp2
    go_ret
    exact ⟨by first | rfl | (simp [bneNil]; done) | (simp; done) | (simp [*]; done), by repeat (first | exact Drawn0.refl _ | apply Drawn0.step)⟩

/-! ### stringslite_CutSuffix: function 100 -/
def stringslite_CutSuffix.f (a0 : ByteArray) (a1 : ByteArray) : Option (ByteArray × Bool) := (stringslite_HasSuffix.f a0 a1).bind fun t101 => (if t101 = true then (if 0 ≤ (wrap64 ((a0.size : Int) - (a1.size : Int))) then (if (wrap64 ((a0.size : Int) - (a1.size : Int))) ≤ (a0.size : Int) then (some (a0.extract 0 ((wrap64 ((a0.size : Int) - (a1.size : Int))) : Int).toNat, true)) else (none)) else (none)) else (some (a0, false)))
set_option maxHeartbeats 8000000 in
set_option maxRecDepth 100000 in
theorem stringslite_CutSuffix.calls (a0 : ByteArray) (a1 : ByteArray) (r1 : ByteArray) (r2 : Bool) (w : World) (h : stringslite_CutSuffix.f a0 a1 = some (r1, r2)) :
    Calls Tryd.prog 100 #[.string a0, .string a1] w fun e w' => e = .returned (.tuple #[.string r1, .bool r2]) ∧ Drawn0 w w' := by
  have H : ((stringslite_HasSuffix.f a0 a1).bind fun t101 => (if t101 = true then (if 0 ≤ (wrap64 ((a0.size : Int) - (a1.size : Int))) then (if (wrap64 ((a0.size : Int) - (a1.size : Int))) ≤ (a0.size : Int) then (some (a0.extract 0 ((wrap64 ((a0.size : Int) - (a1.size : Int))) : Int).toNat, true)) else (none)) else (none)) else (some (a0, false)))) = some (r1, r2) := h
  clear h
  replace H := Option.bind_eq_some_iff.mp H
  obtain ⟨t101, A30, H⟩ := H
  replace H : (if t101 = true then (if 0 ≤ (wrap64 ((a0.size : Int) - (a1.size : Int))) then (if (wrap64 ((a0.size : Int) - (a1.size : Int))) ≤ (a0.size : Int) then (some (a0.extract 0 ((wrap64 ((a0.size : Int) - (a1.size : Int))) : Int).toNat, true)) else (none)) else (none)) else (some (a0, false))) = some (r1, r2) := H
  have A3 := Aside0.mk A30
  clear A30
  by_cases c4 : t101 = true
  · subst c4
    have H1 : (if 0 ≤ (wrap64 ((a0.size : Int) - (a1.size : Int))) then (if (wrap64 ((a0.size : Int) - (a1.size : Int))) ≤ (a0.size : Int) then (some (a0.extract 0 ((wrap64 ((a0.size : Int) - (a1.size : Int))) : Int).toNat, true)) else (none)) else (none)) = some (r1, r2) := by rw [if_pos rfl] at H; exact H
    clear H
    have H := H1
    clear H1
    obtain ⟨ji5, hji5⟩ : ∃ j_ : Int, (wrap64 ((a0.size : Int) - (a1.size : Int))) = j_ := ⟨_, rfl⟩
    replace H : (if 0 ≤ (ji5) then (if (ji5) ≤ (a0.size : Int) then (some (a0.extract 0 ((ji5) : Int).toNat, true)) else (none)) else (none)) = some (r1, r2) := by first | (rw [hji5] at H; exact H) | (simp only [hji5] at H ⊢; exact H)
    (try rw [hji5] at A3)
    have hji5w : (IntKind.i64.wrap ((a0.size : Int) - (a1.size : Int))) = ji5 := (i64_w _).trans hji5
    by_cases c6 : 0 ≤ (ji5)
    · rw [if_pos c6] at H
      have c6b0 := eq_true c6
      have c6b1 : decide (0 ≤ (ji5)) = true := decide_eq_true c6
      clear c6
      by_cases c7 : (ji5) ≤ (a0.size : Int)
      · rw [if_pos c7] at H
        have c7b0 := eq_true c7
        have c7b1 : decide ((ji5) ≤ (a0.size : Int)) = true := decide_eq_true c7
        clear c7
        simp only [Option.some.injEq, Prod.mk.injEq] at H
        obtain ⟨rfl, rfl⟩ := H
        go_enter Tryd.func100, Tryd.ntmps100
        go_wp2_with (first | ((with_reducible refine gate_callee (f := 56) rfl ?_); refine goesL_ (some 8) rfl rfl Tryd.func56 (by kernel_rfl) rfl #[.string a0, .string a1] rfl (by (try simp only [List.map_toArray, List.map_cons, List.map_nil]); first | done | rfl | (simp only [List.length_drop, List.length_take]; rfl)) ?_; (with_reducible refine (stringslite_HasSuffix.calls a0 a1 true _ A3.out).mono ?_); rintro e w' ⟨rfl, ⟨nd, rfl⟩⟩; refine ⟨_, rfl, ?_⟩))
        go_ret2
        exact ⟨by first | rfl | (simp [bneNil]; done) | (simp; done) | (simp only [← hji5] <;> (first | rfl | simp)) | (simp [*]; done), by repeat (first | exact Drawn0.refl _ | apply Drawn0.step)⟩
      · rw [if_neg c7] at H
        exact absurd H (by simp)
    · rw [if_neg c6] at H
      exact absurd H (by simp)
  · replace c4 := Bool.eq_false_iff.mpr c4
    subst c4
    have H1 : (some (a0, false)) = some (r1, r2) := by rw [if_neg (show ¬ (false = true) by decide)] at H; exact H
    clear H
    have H := H1
    clear H1
    simp only [Option.some.injEq, Prod.mk.injEq] at H
    obtain ⟨rfl, rfl⟩ := H
    go_enter Tryd.func100, Tryd.ntmps100
    go_wp2_with (first | ((with_reducible refine gate_callee (f := 56) rfl ?_); refine goesL_ (some 8) rfl rfl Tryd.func56 (by kernel_rfl) rfl #[.string a0, .string a1] rfl (by (try simp only [List.map_toArray, List.map_cons, List.map_nil]); first | done | rfl | (simp only [List.length_drop, List.length_take]; rfl)) ?_; (with_reducible refine (stringslite_HasSuffix.calls a0 a1 false _ A3.out).mono ?_); rintro e w' ⟨rfl, ⟨nd, rfl⟩⟩; refine ⟨_, rfl, ?_⟩))
    go_ret2
    exact ⟨by first | rfl | (simp [bneNil]; done) | (simp; done) | (simp [*]; done), by repeat (first | exact Drawn0.refl _ | apply Drawn0.step)⟩

/-! ### strings_CutSuffix: function 77 -/
def strings_CutSuffix.f (a0 : ByteArray) (a1 : ByteArray) : Option (ByteArray × Bool) := (stringslite_CutSuffix.f a0 a1).bind fun bt102 => (some (bt102.1, bt102.2))
set_option maxHeartbeats 8000000 in
set_option maxRecDepth 100000 in
theorem strings_CutSuffix.calls (a0 : ByteArray) (a1 : ByteArray) (r1 : ByteArray) (r2 : Bool) (w : World) (h : strings_CutSuffix.f a0 a1 = some (r1, r2)) :
    Calls Tryd.prog 77 #[.string a0, .string a1] w fun e w' => e = .returned (.tuple #[.string r1, .bool r2]) ∧ Drawn0 w w' := by
  have H : ((stringslite_CutSuffix.f a0 a1).bind fun bt102 => (some (bt102.1, bt102.2))) = some (r1, r2) := h
  clear h
  replace H := Option.bind_eq_some_iff.mp H
  obtain ⟨⟨t102, t103⟩, A30, H⟩ := H
  replace H : (some (t102, t103)) = some (r1, r2) := H
  have A3 := Aside0.mk A30
  clear A30
  simp only [Option.some.injEq, Prod.mk.injEq] at H
  obtain ⟨rfl, rfl⟩ := H
  go_enter Tryd.func77, Tryd.ntmps77
  go_wp2_with (first | ((with_reducible refine gate_callee (f := 100) rfl ?_); refine goesL_ (some 8) rfl rfl Tryd.func100 (by kernel_rfl) rfl #[.string a0, .string a1] rfl (by (try simp only [List.map_toArray, List.map_cons, List.map_nil]); first | done | rfl | (simp only [List.length_drop, List.length_take]; rfl)) ?_; (with_reducible refine (stringslite_CutSuffix.calls a0 a1 t102 t103 _ A3.out).mono ?_); rintro e w' ⟨rfl, ⟨nd, rfl⟩⟩; refine ⟨_, rfl, ?_⟩))
  go_ret2
  exact ⟨by first | rfl | (simp [bneNil]; done) | (simp; done) | (simp [*]; done), by repeat (first | exact Drawn0.refl _ | apply Drawn0.step)⟩

/-! ### head_byteful: function 47 -/
def head_byteful.l0 : Nat → ByteArray → Int → Int → Option (Bool)
  | 0, _, _, _ => none
  | k + 1, x0, x6, x7 => if x7 < x6 then (if 0 ≤ x7 then (if x7 < (x0.size : Int) then (if (bt x0 x7) = 9 then (head_byteful.l0 k x0 x6 (wrap64 (x7 + 1))) else (if (bt x0 x7) < 32 then (some false) else (if (bt x0 x7) = 127 then (some false) else (head_byteful.l0 k x0 x6 (wrap64 (x7 + 1)))))) else (none)) else (none)) else (some true)
def head_byteful.f (k : Nat) (a0 : ByteArray) : Option (Bool) := head_byteful.l0 k a0 (a0.size : Int) 0
theorem head_byteful.mono_l : ∀ k, (∀ y0 y1 y2, LeO (head_byteful.l0 k y0 y1 y2) (head_byteful.l0 (k + 1) y0 y1 y2))
  | 0 => fun _ _ _ r h => by simp [head_byteful.l0] at h
  | k + 1 => by
    have ih0 := head_byteful.mono_l k
    · intro y0 y1 y2
      unfold head_byteful.l0
      repeat' first
      | (with_reducible exact ih0 _ _ _)
      | (with_reducible exact LeO.refl _)
      | (with_reducible exact LeO.none _)
      | (with_reducible refine LeO.ite ?_ ?_)
      | (with_reducible refine LeO.bind ?_ (fun _ => ?_))
      | exact ih0 _ _ _
      | exact LeO.none _
      | refine LeO.ite ?_ ?_
      | refine LeO.bind ?_ (fun _ => ?_)
theorem head_byteful.mono : ∀ a0 k, LeO (head_byteful.f k a0) (head_byteful.f (k + 1) a0) := by
  intro a0 k
  have ih0 := head_byteful.mono_l k
  unfold head_byteful.f
  repeat' first
      | (with_reducible exact ih0 _ _ _)
      | (with_reducible exact LeO.refl _)
      | (with_reducible exact LeO.none _)
      | (with_reducible refine LeO.ite ?_ ?_)
      | (with_reducible refine LeO.bind ?_ (fun _ => ?_))
      | exact ih0 _ _ _
      | exact LeO.none _
      | refine LeO.ite ?_ ?_
      | refine LeO.bind ?_ (fun _ => ?_)
set_option maxHeartbeats 8000000 in
set_option maxRecDepth 100000 in
theorem head_byteful.calls (k : Nat) (a0 : ByteArray) (r : Bool) (w : World) (h : head_byteful.f k a0 = some r) :
    Calls Tryd.prog 47 #[.string a0] w fun e w' => e = .returned (.bool r) ∧ Drawn0 w w' := by
  have H : (head_byteful.l0 k a0 (a0.size : Int) 0) = some r := h
  clear h
  have H' := Aside0.mk H
  clear H
  go_enter Tryd.func47, Tryd.ntmps47
  go_wp2
  go_loopg [7] k (fun kq v7 w' => ∃ (x7_1 : Int), v7 = .int .i64 x7_1 ∧ Aside0 (head_byteful.l0 kq a0 (a0.size : Int) x7_1 = some r) ∧ Aside0 (kq ≤ k) ∧ Drawn0 w w')
  case atStart => exact ⟨(0), (by first | rfl | (simp; done) | (simp [*]; done)), H', ⟨Nat.le_refl _⟩, by repeat (first | exact Drawn0.refl _ | apply Drawn0.step)⟩
  case round =>
    clear H'
    obtain ⟨x7_1, rfl, HA, HK1, ⟨m1, rfl⟩⟩ := hrel
    cases gk with
    | zero => exact absurd HA.out (by simp [head_byteful.l0])
    | succ k1 =>
      have H := HA.out
      clear HA
      simp only [head_byteful.l0] at H
      by_cases c2 : x7_1 < (a0.size : Int)
      · rw [if_pos c2] at H
        have c2b0 : decide (x7_1 < (a0.size : Int)) = true := decide_eq_true c2
        clear c2
        by_cases c3 : 0 ≤ x7_1
        · rw [if_pos c3] at H
          have c3b0 : decide (0 ≤ x7_1) = true := decide_eq_true c3
          clear c3
          by_cases c4 : x7_1 < (a0.size : Int)
          · rw [if_pos c4] at H
            have c4b0 : decide (x7_1 < (a0.size : Int)) = true := decide_eq_true c4
            clear c4
            by_cases c6 : (bt a0 x7_1) = 9
            · rw [if_pos c6] at H
              have c6b0 : ((bt a0 x7_1) == 9) = true := beq_iff_eq.mpr c6
              have c6b1 : ((bt a0 x7_1) != 9) = false := bne_eq_false_iff_eq.mpr c6
              clear c6
              have H' := Aside0.mk H
              clear H
              have p5 : 0 ≤ (x7_1 : Int) := of_decide_eq_true (by first | (with_reducible assumption) | assumption)
              have q5 : x7_1 < (a0.size : Int) := of_decide_eq_true (by first | (with_reducible assumption) | assumption)
              have hx5 := bt_at a0 x7_1
              replace p5 := eq_true p5
              replace q5 := eq_true q5
              go_wp2
              go_roundg k1
              case measure => have := HK1.out; omega
              case rel => exact ⟨(wrap64 (x7_1 + 1)), (by first | rfl | (simp; done) | (simp [*]; done)), H', ⟨by have := HK1.out; omega⟩, by repeat (first | exact Drawn0.refl _ | apply Drawn0.step)⟩
            · rw [if_neg c6] at H
              have c6b0 : ((bt a0 x7_1) == 9) = false := beq_eq_false_iff_ne.mpr c6
              have c6b1 : ((bt a0 x7_1) != 9) = true := bne_iff_ne.mpr c6
              by_cases c7 : (bt a0 x7_1) < 32
              · rw [if_pos c7] at H
                have c7b0 : decide ((bt a0 x7_1) < 32) = true := decide_eq_true c7
                clear c7
                obtain rfl := Option.some.inj H
                have p5 : 0 ≤ (x7_1 : Int) := of_decide_eq_true (by first | (with_reducible assumption) | assumption)
                have q5 : x7_1 < (a0.size : Int) := of_decide_eq_true (by first | (with_reducible assumption) | assumption)
                have hx5 := bt_at a0 x7_1
                replace p5 := eq_true p5
                replace q5 := eq_true q5
                go_wp2
                go_ret
                exact ⟨by first | rfl | (simp [bneNil]; done) | (simp; done) | (simp [*]; done), by repeat (first | exact Drawn0.refl _ | apply Drawn0.step)⟩
              · rw [if_neg c7] at H
                have c7b0 : decide ((bt a0 x7_1) < 32) = false := decide_eq_false c7
                clear c7
                by_cases c8 : (bt a0 x7_1) = 127
                · rw [if_pos c8] at H
                  have c8b0 : ((bt a0 x7_1) == 127) = true := beq_iff_eq.mpr c8
                  have c8b1 : ((bt a0 x7_1) != 127) = false := bne_eq_false_iff_eq.mpr c8
                  clear c8
                  obtain rfl := Option.some.inj H
                  have p5 : 0 ≤ (x7_1 : Int) := of_decide_eq_true (by first | (with_reducible assumption) | assumption)
                  have q5 : x7_1 < (a0.size : Int) := of_decide_eq_true (by first | (with_reducible assumption) | assumption)
                  have hx5 := bt_at a0 x7_1
                  replace p5 := eq_true p5
                  replace q5 := eq_true q5
                  go_wp2
                  go_ret
                  exact ⟨by first | rfl | (simp [bneNil]; done) | (simp; done) | (simp [*]; done), by repeat (first | exact Drawn0.refl _ | apply Drawn0.step)⟩
                · rw [if_neg c8] at H
                  have c8b0 : ((bt a0 x7_1) == 127) = false := beq_eq_false_iff_ne.mpr c8
                  have c8b1 : ((bt a0 x7_1) != 127) = true := bne_iff_ne.mpr c8
                  have H' := Aside0.mk H
                  clear H
                  have p5 : 0 ≤ (x7_1 : Int) := of_decide_eq_true (by first | (with_reducible assumption) | assumption)
                  have q5 : x7_1 < (a0.size : Int) := of_decide_eq_true (by first | (with_reducible assumption) | assumption)
                  have hx5 := bt_at a0 x7_1
                  replace p5 := eq_true p5
                  replace q5 := eq_true q5
                  go_wp2
                  go_roundg k1
                  case measure => have := HK1.out; omega
                  case rel => exact ⟨(wrap64 (x7_1 + 1)), (by first | rfl | (simp; done) | (simp [*]; done)), H', ⟨by have := HK1.out; omega⟩, by repeat (first | exact Drawn0.refl _ | apply Drawn0.step)⟩
          · rw [if_neg c4] at H
            exact absurd H (by simp)
        · rw [if_neg c3] at H
          exact absurd H (by simp)
      · rw [if_neg c2] at H
        have c2b0 : decide (x7_1 < (a0.size : Int)) = false := decide_eq_false c2
        clear c2
        obtain rfl := Option.some.inj H
        go_wp2
        go_ret
        exact ⟨by first | rfl | (simp [bneNil]; done) | (simp; done) | (simp [*]; done), by repeat (first | exact Drawn0.refl _ | apply Drawn0.step)⟩

/-! ### head_lines_1: function 79 -/
def head_lines_1.f (k : Nat) (a0 : ByteArray) : Option (Bool) := (head_byteful.f k a0).bind fun t104 => (some (!t104))
theorem head_lines_1.mono : ∀ a0 k, LeO (head_lines_1.f k a0) (head_lines_1.f (k + 1) a0) := by
  intro a0 k
  unfold head_lines_1.f
  repeat' first
      | (with_reducible exact head_byteful.mono _ _)
      | (with_reducible exact LeO.refl _)
      | (with_reducible exact LeO.none _)
      | (with_reducible refine LeO.ite ?_ ?_)
      | (with_reducible refine LeO.bind ?_ (fun _ => ?_))
      | exact head_byteful.mono _ _
      | exact LeO.none _
      | refine LeO.ite ?_ ?_
      | refine LeO.bind ?_ (fun _ => ?_)
set_option maxHeartbeats 8000000 in
set_option maxRecDepth 100000 in
theorem head_lines_1.calls (k : Nat) (a0 : ByteArray) (r : Bool) (w : World) (h : head_lines_1.f k a0 = some r) :
    Calls Tryd.prog 79 #[.string a0] w fun e w' => e = .returned (.bool r) ∧ Drawn0 w w' := by
  have H : ((head_byteful.f k a0).bind fun t104 => (some (!t104))) = some r := h
  clear h
  replace H := Option.bind_eq_some_iff.mp H
  obtain ⟨t104, A20, H⟩ := H
  replace H : (some (!t104)) = some r := H
  have A2 := Aside0.mk A20
  clear A20
  obtain rfl := Option.some.inj H
  go_enter Tryd.func79, Tryd.ntmps79
  go_wp2_with (first | ((with_reducible refine gate_callee (f := 47) rfl ?_); refine goesL_ (some 4) rfl rfl Tryd.func47 (by kernel_rfl) rfl #[.string a0] rfl (by (try simp only [List.map_toArray, List.map_cons, List.map_nil]); first | done | rfl | (simp only [List.length_drop, List.length_take]; rfl)) ?_; (with_reducible refine (head_byteful.calls k a0 t104 _ A2.out).mono ?_); rintro e w' ⟨rfl, ⟨nd, rfl⟩⟩; refine ⟨_, rfl, ?_⟩))
  go_ret
  exact ⟨by first | rfl | (simp [bneNil]; done) | (simp; done) | (simp [*]; done), by repeat (first | exact Drawn0.refl _ | apply Drawn0.step)⟩

/-! ### slices_ContainsFunc_string_string__head_lines_1: function 78 with function 79 (by hand) -/
def slices_ContainsFunc_string_string__head_lines_1.f (k : Nat) (l0 : List ByteArray) : Option Bool := anyF (fun x => head_lines_1.f k x) l0
theorem slices_ContainsFunc_string_string__head_lines_1.mono : ∀ l0 k, LeO (slices_ContainsFunc_string_string__head_lines_1.f k l0) (slices_ContainsFunc_string_string__head_lines_1.f (k + 1) l0) := fun l0 k => anyF_mono (fun x => head_lines_1.mono x k) l0
set_option maxHeartbeats 1000000 in
set_option maxRecDepth 100000 in
theorem slices_ContainsFunc_string_string__head_lines_1.idx (k : Nat) (l : List ByteArray) (r : Bool) (hl : l.length ≤ 9223372036854775807) (A : Option Addr) (c : Nat) (w : World) (hC : ReadsOf Value.string ByteArray.empty w A l.length l) (h : slices_ContainsFunc_string_string__head_lines_1.f k l = some r) :
    Calls Tryd.prog 101 #[.slice A l.length c, .func (.func 79) #[] #[]] w (IdxPost r w) := by
  have HC := Lib.hid hC
  have h' : Aside0 (anyF (fun x => head_lines_1.f k x) (l.drop 0) = some r) := ⟨h⟩
  clear hC h
  go_enter Tryd.func101, Tryd.ntmps101
  go_wp2
  go_loopw [8] (fun v8 w' => ∃ j : Nat, v8 = .int .i64 j ∧ j ≤ l.length ∧ Aside0 (anyF (fun x => head_lines_1.f k x) (l.drop j) = some r) ∧ Aside0 (Below w.heap.size w w')) (fun v8 _ => l.length - (intOf v8).toNat)
  case atStart => exact ⟨0, rfl, Nat.zero_le _, h', ⟨Below.refl _ _⟩⟩
  case round =>
    obtain ⟨j, rfl, hj, Hall, HB⟩ := hrel
    by_cases hlt : j < l.length
    · obtain ⟨ad, hA, hcell⟩ := (HC.out.below HB.out).at_ (j : Int) (by omega) (by omega)
      rw [Int.toNat_natCast] at hcell
      have ex : rdOf ByteArray.empty l (j : Int) = l[j]'hlt := by simp [rdOf, hlt]
      rw [ex] at hcell
      clear ex
      have hd := Hall.out
      rw [List.drop_eq_getElem_cons hlt] at hd
      obtain ⟨b, hb, hrest⟩ := anyF_cons hd
      have Hb := Lib.hid hb
      clear hb hd
      obtain ⟨x, hx⟩ : ∃ x : ByteArray, x = l[j]'hlt := ⟨_, rfl⟩
      rw [← hx] at hcell Hb
      clear hx
      rcases hrest with ⟨rfl, hr⟩ | ⟨rfl, hr⟩
      · have Hr := Lib.hid hr
        clear hr
        subst hA
        go_wp2_with (refine ((head_lines_1.calls k x true _ Hb.out)).mono ?_; rintro e w1 ⟨rfl, hd1⟩; have HB1 := Lib.hid hd1.below; clear hd1)
        go_ret
        refine ⟨(j : Int), rfl, ?_, HB.out.trans (HB1.out.mono HB.out.size)⟩
        rw [Hr.out]
        exact decide_eq_true (by omega)
      · have Hr := Aside0.mk hr
        clear hr
        subst hA
        go_wp2_with (refine ((head_lines_1.calls k x false _ Hb.out)).mono ?_; rintro e w1 ⟨rfl, hd1⟩; have HB1 := Lib.hid hd1.below; clear hd1)
        go_roundw
        case rel => exact ⟨j + 1, by go_num, hlt, Hr, ⟨HB.out.trans (HB1.out.mono HB.out.size)⟩⟩
        case measure => simp [intOf]; omega
    · go_wp2
      go_ret
      have hd := Hall.out
      rw [List.drop_of_length_le (by omega)] at hd
      have hr : false = r := Option.some.inj hd
      refine ⟨-1, rfl, ?_, HB.out⟩
      rw [← hr]; rfl
set_option maxHeartbeats 1000000 in
set_option maxRecDepth 100000 in
theorem slices_ContainsFunc_string_string__head_lines_1.calls (k : Nat) (A0 : Option Addr) (c0 : Nat) (l0 : List ByteArray) (r : Bool) (w : World) (hr0 : Kd.C Kd.string w A0 l0.length l0) (hc0 : l0.length ≤ c0) (h : slices_ContainsFunc_string_string__head_lines_1.f k l0 = some r) :
    Calls Tryd.prog 78 #[.slice A0 l0.length c0, .func (.func 79) #[] #[]] w fun e w' => e = .returned (.bool r) ∧ Below w.heap.size w w' := by
  have hrd : ReadsOf Value.string ByteArray.empty w A0 l0.length l0 := Kd.reads_of_C hr0
  have HI := Lib.hid (slices_ContainsFunc_string_string__head_lines_1.idx k l0 r hrd.2.1 A0 c0 w hrd h)
  clear hrd hr0 h
  go_enter Tryd.func78, Tryd.ntmps78
  go_wp2_with (go_at_call 101; refine HI.out.mono ?_; rintro e w1 ⟨i, rfl, hi, hb⟩; have HB1 := Lib.hid hb; clear hb; have Hi := Lib.hid hi; clear hi)
  go_ret
  exact ⟨by have hi := Hi.out; simp [hi], HB1.out⟩


/-! ### head_lines: function 39 -/
def head_lines.f (k : Nat) (a0 : ByteArray) : Option (List ByteArray × Bool) := if a0.toList = ([] : List UInt8) then (some (([] : List ByteArray), true)) else ((strings_CutSuffix.f a0 (⟨#[13, 10]⟩ : ByteArray)).bind fun bt105 => ((strings_Split.f bt105.1 (⟨#[13, 10]⟩ : ByteArray)).bind fun t107 => (if bt105.2 = true then ((slices_ContainsFunc_string_string__head_lines_1.f k t107).bind fun t110 => (some (t107, !t110))) else (some (t107, false)))))
theorem head_lines.mono : ∀ a0 k, LeO (head_lines.f k a0) (head_lines.f (k + 1) a0) := by
  intro a0 k
  unfold head_lines.f
  repeat' first
      | (with_reducible exact slices_ContainsFunc_string_string__head_lines_1.mono _ _)
      | (with_reducible exact LeO.refl _)
      | (with_reducible exact LeO.none _)
      | (with_reducible refine LeO.ite ?_ ?_)
      | (with_reducible refine LeO.bind ?_ (fun _ => ?_))
      | exact slices_ContainsFunc_string_string__head_lines_1.mono _ _
      | exact LeO.none _
      | refine LeO.ite ?_ ?_
      | refine LeO.bind ?_ (fun _ => ?_)
set_option maxHeartbeats 8000000 in
set_option maxRecDepth 100000 in
theorem head_lines.calls (k : Nat) (a0 : ByteArray) (r1 : List ByteArray) (r2 : Bool) (w : World) (hG : Glob w) (h : head_lines.f k a0 = some (r1, r2)) :
    Calls Tryd.prog 39 #[.string a0] w fun e w' => ∃ v0_ : Value, e = .returned (.tuple #[v0_, .bool r2]) ∧ Kd.R Kd.string 9 w' w.heap.size (fun _ => True) v0_ r1 ∧ Below w.heap.size w w' := by
  have HB := Aside0.mk (Below.refl w.heap.size w)
  have HG := Aside0.mk hG
  clear hG
  have H : (if a0.toList = ([] : List UInt8) then (some (([] : List ByteArray), true)) else ((strings_CutSuffix.f a0 (⟨#[13, 10]⟩ : ByteArray)).bind fun bt105 => ((strings_Split.f bt105.1 (⟨#[13, 10]⟩ : ByteArray)).bind fun t107 => (if bt105.2 = true then ((slices_ContainsFunc_string_string__head_lines_1.f k t107).bind fun t110 => (some (t107, !t110))) else (some (t107, false)))))) = some (r1, r2) := h
  clear h
  by_cases c2 : a0.toList = ([] : List UInt8)
  · rw [if_pos c2] at H
    have c2b0 : (a0.toList == ([] : List UInt8)) = true := beq_iff_eq.mpr c2
    have c2b1 : (a0.toList != ([] : List UInt8)) = false := bne_eq_false_iff_eq.mpr c2
    clear c2
    simp only [Option.some.injEq, Prod.mk.injEq] at H
    obtain ⟨rfl, rfl⟩ := H
    go_enter Tryd.func39, Tryd.ntmps39
    go_wp2
    go_ret2
    exact ⟨_, by first | rfl | (simp [errW_none, errW_some] <;> rfl) | (simp [*, errW_none, errW_some] <;> rfl), by first | exact Kd.R_nil _ _ _ _ _ | exact Kd.N_nil _ _ _ _ _ | exact Kd.V_nil _ _ _ _ _ | exact Kd.Q_nil _ _ _ _ _ | exact Kd.S_nil _ _ _ _ _, by repeat (first | (with_reducible first | exact HB.out | apply below_alloc | apply pw_below_drewN | apply below_drew1) | exact HB.out)⟩
  · rw [if_neg c2] at H
    have c2b0 : (a0.toList == ([] : List UInt8)) = false := beq_eq_false_iff_ne.mpr c2
    have c2b1 : (a0.toList != ([] : List UInt8)) = true := bne_iff_ne.mpr c2
    replace H := Option.bind_eq_some_iff.mp H
    obtain ⟨⟨t105, t106⟩, A30, H⟩ := H
    replace H : ((strings_Split.f t105 (⟨#[13, 10]⟩ : ByteArray)).bind fun t107 => (if t106 = true then ((slices_ContainsFunc_string_string__head_lines_1.f k t107).bind fun t110 => (some (t107, !t110))) else (some (t107, false)))) = some (r1, r2) := H
    have A3 := Aside0.mk A30
    clear A30
    replace H := Option.bind_eq_some_iff.mp H
    obtain ⟨t107, A40, H⟩ := H
    replace H : (if t106 = true then ((slices_ContainsFunc_string_string__head_lines_1.f k t107).bind fun t110 => (some (t107, !t110))) else (some (t107, false))) = some (r1, r2) := H
    have A4 := Aside0.mk A40
    clear A40
    by_cases c5 : t106 = true
    · subst c5
      have H1 : ((slices_ContainsFunc_string_string__head_lines_1.f k t107).bind fun t110 => (some (t107, !t110))) = some (r1, r2) := by rw [if_pos rfl] at H; exact H
      clear H
      have H := H1
      clear H1
      replace H := Option.bind_eq_some_iff.mp H
      obtain ⟨t110, A60, H⟩ := H
      replace H : (some (t107, !t110)) = some (r1, r2) := H
      have A6 := Aside0.mk A60
      clear A60
      simp only [Option.some.injEq, Prod.mk.injEq] at H
      obtain ⟨rfl, rfl⟩ := H
      go_enter Tryd.func39, Tryd.ntmps39
      go_wp2_with (first | ((with_reducible refine gate_callee (f := 77) rfl ?_); refine goesL_ (some 11) rfl rfl Tryd.func77 (by kernel_rfl) rfl #[.string a0, .string (⟨#[13, 10]⟩ : ByteArray)] rfl (by (try simp only [List.map_toArray, List.map_cons, List.map_nil]); first | done | rfl | (simp only [List.length_drop, List.length_take]; rfl)) ?_; (with_reducible refine (strings_CutSuffix.calls a0 (⟨#[13, 10]⟩ : ByteArray) t105 true _ A3.out).mono ?_); rintro e w' ⟨rfl, ⟨nd, rfl⟩⟩; refine ⟨_, rfl, ?_⟩) | ((with_reducible refine gate_callee (f := 17) rfl ?_); refine goesL_ (some 15) rfl rfl Tryd.func17 (by kernel_rfl) rfl #[.string t105, .string (⟨#[13, 10]⟩ : ByteArray)] rfl (by (try simp only [List.map_toArray, List.map_cons, List.map_nil]); first | done | rfl | (simp only [List.length_drop, List.length_take]; rfl)) ?_; (with_reducible refine (strings_Split.calls t105 (⟨#[13, 10]⟩ : ByteArray) t107 _ ?side1 A4.out).mono ?_); (case side1 => exact Glob.below HG.out (by repeat (first | (with_reducible first | exact HB.out | apply below_alloc | apply pw_below_drewN | apply below_drew1) | exact HB.out))); rintro e w7 ⟨v108, rfl, ho0, hb⟩; refine ⟨_, rfl, ?_⟩; have n0_ := Aside0.mk (Kd.R_lower ho0 (below_size (by repeat (first | (with_reducible first | exact HB.out | apply below_alloc | apply pw_below_drewN | apply below_drew1) | exact HB.out)))); have n1_ := Aside0.mk (below_step (by repeat (first | (with_reducible first | exact HB.out | apply below_alloc | apply pw_below_drewN | apply below_drew1) | exact HB.out)) hb); clear HB; have HO109 := n0_; have HB := n1_; clear n0_ n1_; (try clear hb); (try clear hb2); (try clear hk); (try clear hi); (try clear ho0); obtain ⟨Ao8, co8, eo8⟩ := Kd.R_slice HO109.out; subst eo8) | (go_at_call 78; (with_reducible refine (slices_ContainsFunc_string_string__head_lines_1.calls k _ _ t107 t110 _ ?side1 ?side2 A6.out).mono ?_); (case side1 => repeat (first | exact (Kd.R_reads' HO109.out).2.2 | (with_reducible refine Kd.C_alloc ?_ _) | (with_reducible refine Kd.C_drewN ?_ _) | (with_reducible refine Kd.C_drew ?_))); (case side2 => exact (Kd.R_reads' HO109.out).2.1); rintro e w9 ⟨rfl, hb⟩; have n0_ := Aside0.mk (Kd.R_below (by (with_reducible repeat (first | apply Kd.R_alloc | apply Kd.R_drewN | apply Kd.R_drew)); exact HO109.out) hb); have n1_ := Aside0.mk (below_step (by repeat (first | (with_reducible first | exact HB.out | apply below_alloc | apply pw_below_drewN | apply below_drew1) | exact HB.out)) hb); clear HO109; clear HB; have HO109 := n0_; have HB := n1_; clear n0_ n1_; (try clear hb); (try clear hb2); (try clear hk); (try clear hi)))
      go_ret2
      exact ⟨_, by first | rfl | (simp [errW_none, errW_some] <;> rfl) | (simp [*, errW_none, errW_some] <;> rfl), by (with_reducible repeat (first | apply Kd.R_alloc | apply Kd.R_drewN | apply Kd.R_drew)); exact HO109.out, by repeat (first | (with_reducible first | exact HB.out | apply below_alloc | apply pw_below_drewN | apply below_drew1) | exact HB.out)⟩
    · replace c5 := Bool.eq_false_iff.mpr c5
      subst c5
      have H1 : (some (t107, false)) = some (r1, r2) := by rw [if_neg (show ¬ (false = true) by decide)] at H; exact H
      clear H
      have H := H1
      clear H1
      simp only [Option.some.injEq, Prod.mk.injEq] at H
      obtain ⟨rfl, rfl⟩ := H
      go_enter Tryd.func39, Tryd.ntmps39
      go_wp2_with (first | ((with_reducible refine gate_callee (f := 77) rfl ?_); refine goesL_ (some 11) rfl rfl Tryd.func77 (by kernel_rfl) rfl #[.string a0, .string (⟨#[13, 10]⟩ : ByteArray)] rfl (by (try simp only [List.map_toArray, List.map_cons, List.map_nil]); first | done | rfl | (simp only [List.length_drop, List.length_take]; rfl)) ?_; (with_reducible refine (strings_CutSuffix.calls a0 (⟨#[13, 10]⟩ : ByteArray) t105 false _ A3.out).mono ?_); rintro e w' ⟨rfl, ⟨nd, rfl⟩⟩; refine ⟨_, rfl, ?_⟩) | ((with_reducible refine gate_callee (f := 17) rfl ?_); refine goesL_ (some 15) rfl rfl Tryd.func17 (by kernel_rfl) rfl #[.string t105, .string (⟨#[13, 10]⟩ : ByteArray)] rfl (by (try simp only [List.map_toArray, List.map_cons, List.map_nil]); first | done | rfl | (simp only [List.length_drop, List.length_take]; rfl)) ?_; (with_reducible refine (strings_Split.calls t105 (⟨#[13, 10]⟩ : ByteArray) t107 _ ?side1 A4.out).mono ?_); (case side1 => exact Glob.below HG.out (by repeat (first | (with_reducible first | exact HB.out | apply below_alloc | apply pw_below_drewN | apply below_drew1) | exact HB.out))); rintro e w10 ⟨v108, rfl, ho0, hb⟩; refine ⟨_, rfl, ?_⟩; have n0_ := Aside0.mk (Kd.R_lower ho0 (below_size (by repeat (first | (with_reducible first | exact HB.out | apply below_alloc | apply pw_below_drewN | apply below_drew1) | exact HB.out)))); have n1_ := Aside0.mk (below_step (by repeat (first | (with_reducible first | exact HB.out | apply below_alloc | apply pw_below_drewN | apply below_drew1) | exact HB.out)) hb); clear HB; have HO109 := n0_; have HB := n1_; clear n0_ n1_; (try clear hb); (try clear hb2); (try clear hk); (try clear hi); (try clear ho0)))
      go_ret2
      exact ⟨_, by first | rfl | (simp [errW_none, errW_some] <;> rfl) | (simp [*, errW_none, errW_some] <;> rfl), by (with_reducible repeat (first | apply Kd.R_alloc | apply Kd.R_drewN | apply Kd.R_drew)); exact HO109.out, by repeat (first | (with_reducible first | exact HB.out | apply below_alloc | apply pw_below_drewN | apply below_drew1) | exact HB.out)⟩

/-! ### slices_Index_string_string: function 40 (by hand) -/
def slices_Index_string_string.f (l0 : List ByteArray) (a1 : ByteArray) : Option Int := some (Lib.idxOfS l0 a1)
theorem slices_Index_string_string.calls (A0 : Option Addr) (c0 : Nat) (l0 : List ByteArray) (a1 : ByteArray) (r : Int) (w : World) (hr0 : Kd.C Kd.string w A0 l0.length l0) (hc0 : l0.length ≤ c0) (h : slices_Index_string_string.f l0 a1 = some r) :
    Calls Tryd.prog 40 #[.slice A0 l0.length c0, .string a1] w fun e w' => e = .returned (.int .i64 r) ∧ Drawn0 w w' := by
  obtain rfl := Option.some.inj h
  by_cases hl : l0 = []
  · subst hl
    refine (Tryd.slices_Index_string_empty A0 c0 a1 w).mono ?_
    rintro e w' ⟨rfl, rfl⟩
    exact ⟨rfl, Drawn0.refl _⟩
  · obtain ⟨bk, o, rfl, hbk, hc⟩ := cells_at hr0 (List.length_pos_iff.2 hl)
    have hrd : ReadsOf Value.string ByteArray.empty w (some ⟨bk, o, none⟩) l0.length l0 := Kd.reads_of_C hr0
    refine (Tryd.slices_Index_string bk o l0.length c0 l0 a1 w (Nat.le_refl _) hrd.2.1 (fun j hj => ?_)).mono ?_
    · rw [hc j (l0[j]'hj) (List.getElem?_eq_getElem hj)]
      simp [List.getD, hj]
    · rintro e w' ⟨rfl, rfl⟩
      rw [List.take_of_length_le (Nat.le_refl _)]
      exact ⟨rfl, Drawn0.refl _⟩


/-! ### head_white: function 41 -/
def head_white.f (a0 : ByteArray) : Option (Bool) := if a0.toList = ([] : List UInt8) then (some false) else (if 0 < (a0.size : Int) then (if (bt a0 0) = 32 then (some true) else (some ((bt a0 0) == 9))) else (none))
set_option maxHeartbeats 8000000 in
set_option maxRecDepth 100000 in
theorem head_white.calls (a0 : ByteArray) (r : Bool) (w : World) (h : head_white.f a0 = some r) :
    Calls Tryd.prog 41 #[.string a0] w fun e w' => e = .returned (.bool r) ∧ Drawn0 w w' := by
  have H : (if a0.toList = ([] : List UInt8) then (some false) else (if 0 < (a0.size : Int) then (if (bt a0 0) = 32 then (some true) else (some ((bt a0 0) == 9))) else (none))) = some r := h
  clear h
  by_cases c2 : a0.toList = ([] : List UInt8)
  · rw [if_pos c2] at H
    have c2b0 : (a0.toList == ([] : List UInt8)) = true := beq_iff_eq.mpr c2
    have c2b1 : (a0.toList != ([] : List UInt8)) = false := bne_eq_false_iff_eq.mpr c2
    clear c2
    obtain rfl := Option.some.inj H
    go_enter Tryd.func41, Tryd.ntmps41
    go_wp2
    go_ret
    exact ⟨by first | rfl | (simp [bneNil]; done) | (simp; done) | (simp [*]; done), by repeat (first | exact Drawn0.refl _ | apply Drawn0.step)⟩
  · rw [if_neg c2] at H
    have c2b0 : (a0.toList == ([] : List UInt8)) = false := beq_eq_false_iff_ne.mpr c2
    have c2b1 : (a0.toList != ([] : List UInt8)) = true := bne_iff_ne.mpr c2
    by_cases c3 : 0 < (a0.size : Int)
    · rw [if_pos c3] at H
      have c3b0 : decide (0 < (a0.size : Int)) = true := decide_eq_true c3
      have c3b1 : decide (0 < a0.size) = true := decide_eq_true (by omega)
      clear c3
      by_cases c5 : (bt a0 0) = 32
      · rw [if_pos c5] at H
        have c5b0 : ((bt a0 0) == 32) = true := beq_iff_eq.mpr c5
        have c5b1 : ((bt a0 0) != 32) = false := bne_eq_false_iff_eq.mpr c5
        clear c5
        obtain rfl := Option.some.inj H
        have p4 : 0 ≤ (0 : Int) := (by omega)
        have q4 : 0 < a0.size := (by have : (0 : Int) < (a0.size : Int) := of_decide_eq_true (by first | (with_reducible assumption) | assumption); omega)
        have hx4 : ∀ h : 0 < a0.size, ((a0[0]'h).toNat : Int) = bt a0 0 := bt_at a0 0
        clear p4
        have qi4 : (0 < (a0.size : Int)) = True := eq_true (of_decide_eq_true (by first | (with_reducible assumption) | assumption))
        replace q4 := eq_true q4
        go_enter Tryd.func41, Tryd.ntmps41
        go_wp2
        go_ret
        exact ⟨by first | rfl | (simp [bneNil]; done) | (simp; done) | (simp [*]; done), by repeat (first | exact Drawn0.refl _ | apply Drawn0.step)⟩
      · rw [if_neg c5] at H
        have c5b0 : ((bt a0 0) == 32) = false := beq_eq_false_iff_ne.mpr c5
        have c5b1 : ((bt a0 0) != 32) = true := bne_iff_ne.mpr c5
        obtain rfl := Option.some.inj H
        have p4 : 0 ≤ (0 : Int) := (by omega)
        have q4 : 0 < a0.size := (by have : (0 : Int) < (a0.size : Int) := of_decide_eq_true (by first | (with_reducible assumption) | assumption); omega)
        have hx4 : ∀ h : 0 < a0.size, ((a0[0]'h).toNat : Int) = bt a0 0 := bt_at a0 0
        clear p4
        have qi4 : (0 < (a0.size : Int)) = True := eq_true (of_decide_eq_true (by first | (with_reducible assumption) | assumption))
        replace q4 := eq_true q4
        have p6 : 0 ≤ (0 : Int) := (by omega)
        have q6 : 0 < a0.size := (by have : (0 : Int) < (a0.size : Int) := of_decide_eq_true (by first | (with_reducible assumption) | assumption); omega)
        have hx6 : ∀ h : 0 < a0.size, ((a0[0]'h).toNat : Int) = bt a0 0 := bt_at a0 0
        clear p6
        have qi6 : (0 < (a0.size : Int)) = True := eq_true (of_decide_eq_true (by first | (with_reducible assumption) | assumption))
        replace q6 := eq_true q6
        go_enter Tryd.func41, Tryd.ntmps41
        go_wp2
        go_ret
        exact ⟨by first | rfl | (simp [bneNil]; done) | (simp; done) | (simp [*]; done), by repeat (first | exact Drawn0.refl _ | apply Drawn0.step)⟩
    · rw [if_neg c3] at H
      exact absurd H (by simp)

/-! ### strings_Join: function 19 (by hand) -/
def strings_Join.f (l0 : List ByteArray) (a1 : ByteArray) : Option ByteArray := match l0 with
  | [] => none
  | x :: t => if (x :: t).length ≤ 140737488355328 ∧ (Lib.join ((x :: t).map (·.data.toList)) a1.data.toList).length ≤ 140737488355328 then some ⟨(Lib.join ((x :: t).map (·.data.toList)) a1.data.toList).toArray⟩ else none
theorem join_cells {w : World} {A : Option Addr} {l : List ByteArray} (h : Kd.C Kd.string w A l.length l) (hl : 0 < l.length) : ∃ bk o, A = some ⟨bk, o, none⟩ ∧ bk < w.heap.size ∧ ∀ (j : Nat) x, l[j]? = some x → w.cell? ⟨bk, o + j, none⟩ = some (.string x) := by
  obtain ⟨_, _, h3⟩ : ReadsOf Value.string ByteArray.empty w A l.length l := Kd.reads_of_C h
  obtain ⟨⟨bk, o, sp⟩, rfl, hc⟩ := h3 hl
  have hsp : sp = none := by
    have h0 := hc 0 hl
    have := World.block_lt_of_cell? w _ h0
    cases sp with
    | none => rfl
    | some q =>
      exfalso
      unfold Addr.add at h0
      simp [World.cell?] at h0
      revert h0
      split <;> simp
  subst hsp
  refine ⟨bk, o, rfl, World.block_lt_of_cell? w _ (hc 0 hl), ?_⟩
  intro j x hj
  have hj' : j < l.length := (List.getElem?_eq_some_iff.1 hj).1
  have := hc j hj'
  have e : (⟨bk, o, none⟩ : Addr).add j = ⟨bk, o + j, none⟩ := by unfold Addr.add; split <;> simp_all
  rw [e] at this
  rw [this, List.getD_eq_getElem?_getD, hj]; rfl
theorem strings_Join.calls (A0 : Option Addr) (c0 : Nat) (l0 : List ByteArray) (a1 : ByteArray) (r : ByteArray) (w : World) (hr0 : Kd.C Kd.string w A0 l0.length l0) (hc0 : l0.length ≤ c0) (h : strings_Join.f l0 a1 = some r) :
    Calls Tryd.prog 19 #[.slice A0 l0.length c0, .string a1] w fun e w' => e = .returned (.string r) ∧ Below w.heap.size w w' := by
  unfold strings_Join.f at h
  split at h
  · cases h
  · rename_i x t
    split at h
    · rename_i hb
      obtain rfl := Option.some.inj h
      obtain ⟨bk, o, rfl, hbk, hc⟩ := join_cells hr0 (by simp)
      exact Tryd.strings_Join bk o c0 (x :: t) a1 w hc hbk hb.1 hc0 hb.2
    · cases h


/-! ### strings_Contains: function 20 (by hand) -/
def strings_Contains.f (a0 a1 : ByteArray) : Option Bool := if a0.size < 4294967281 then some (Lib.contains a0.data.toList a1.data.toList) else none
theorem strings_Contains.calls (a0 a1 : ByteArray) (r : Bool) (w : World) (hG : Glob w) (h : strings_Contains.f a0 a1 = some r) :
    Calls Tryd.prog 20 #[.string a0, .string a1] w fun e w' => e = .returned (.bool r) ∧ Drawn0 w w' := by
  unfold strings_Contains.f at h
  split at h
  · rename_i hs
    obtain rfl := Option.some.inj h
    obtain ⟨m, hm⟩ := hG.mx
    refine (Tryd.strings_Contains a0 a1 m w hs hm).mono ?_
    rintro e w' ⟨rfl, rfl⟩
    exact ⟨rfl, Drawn0.refl _⟩
  · cases h


/-! ### head_named: function 46 -/
def head_named.l0 : Nat → ByteArray → Int → Int → Option (Bool)
  | 0, _, _, _ => none
  | k + 1, x0, x6, x7 => if x7 < x6 then (if 0 ≤ x7 then (if x7 < (x0.size : Int) then (if (bt x0 x7) ≤ 32 then (some false) else (if (bt x0 x7) > 126 then (some false) else (if (bt x0 x7) = 58 then (some false) else (head_named.l0 k x0 x6 (wrap64 (x7 + 1)))))) else (none)) else (none)) else (some (x0.toList != ([] : List UInt8)))
def head_named.f (k : Nat) (a0 : ByteArray) : Option (Bool) := head_named.l0 k a0 (a0.size : Int) 0
theorem head_named.mono_l : ∀ k, (∀ y0 y1 y2, LeO (head_named.l0 k y0 y1 y2) (head_named.l0 (k + 1) y0 y1 y2))
  | 0 => fun _ _ _ r h => by simp [head_named.l0] at h
  | k + 1 => by
    have ih0 := head_named.mono_l k
    · intro y0 y1 y2
      unfold head_named.l0
      repeat' first
      | (with_reducible exact ih0 _ _ _)
      | (with_reducible exact LeO.refl _)
      | (with_reducible exact LeO.none _)
      | (with_reducible refine LeO.ite ?_ ?_)
      | (with_reducible refine LeO.bind ?_ (fun _ => ?_))
      | exact ih0 _ _ _
      | exact LeO.none _
      | refine LeO.ite ?_ ?_
      | refine LeO.bind ?_ (fun _ => ?_)
theorem head_named.mono : ∀ a0 k, LeO (head_named.f k a0) (head_named.f (k + 1) a0) := by
  intro a0 k
  have ih0 := head_named.mono_l k
  unfold head_named.f
  repeat' first
      | (with_reducible exact ih0 _ _ _)
      | (with_reducible exact LeO.refl _)
      | (with_reducible exact LeO.none _)
      | (with_reducible refine LeO.ite ?_ ?_)
      | (with_reducible refine LeO.bind ?_ (fun _ => ?_))
      | exact ih0 _ _ _
      | exact LeO.none _
      | refine LeO.ite ?_ ?_
      | refine LeO.bind ?_ (fun _ => ?_)
set_option maxHeartbeats 8000000 in
set_option maxRecDepth 100000 in
theorem head_named.calls (k : Nat) (a0 : ByteArray) (r : Bool) (w : World) (h : head_named.f k a0 = some r) :
    Calls Tryd.prog 46 #[.string a0] w fun e w' => e = .returned (.bool r) ∧ Drawn0 w w' := by
  have H : (head_named.l0 k a0 (a0.size : Int) 0) = some r := h
  clear h
  have H' := Aside0.mk H
  clear H
  go_enter Tryd.func46, Tryd.ntmps46
  go_wp2
  go_loopg [7] k (fun kq v7 w' => ∃ (x7_1 : Int), v7 = .int .i64 x7_1 ∧ Aside0 (head_named.l0 kq a0 (a0.size : Int) x7_1 = some r) ∧ Aside0 (kq ≤ k) ∧ Drawn0 w w')
  case atStart => exact ⟨(0), (by first | rfl | (simp; done) | (simp [*]; done)), H', ⟨Nat.le_refl _⟩, by repeat (first | exact Drawn0.refl _ | apply Drawn0.step)⟩
  case round =>
    clear H'
    obtain ⟨x7_1, rfl, HA, HK1, ⟨m1, rfl⟩⟩ := hrel
    cases gk with
    | zero => exact absurd HA.out (by simp [head_named.l0])
    | succ k1 =>
      have H := HA.out
      clear HA
      simp only [head_named.l0] at H
      by_cases c2 : x7_1 < (a0.size : Int)
      · rw [if_pos c2] at H
        have c2b0 : decide (x7_1 < (a0.size : Int)) = true := decide_eq_true c2
        clear c2
        by_cases c3 : 0 ≤ x7_1
        · rw [if_pos c3] at H
          have c3b0 : decide (0 ≤ x7_1) = true := decide_eq_true c3
          clear c3
          by_cases c4 : x7_1 < (a0.size : Int)
          · rw [if_pos c4] at H
            have c4b0 : decide (x7_1 < (a0.size : Int)) = true := decide_eq_true c4
            clear c4
            by_cases c6 : (bt a0 x7_1) ≤ 32
            · rw [if_pos c6] at H
              have c6b0 : decide ((bt a0 x7_1) ≤ 32) = true := decide_eq_true c6
              clear c6
              obtain rfl := Option.some.inj H
              have p5 : 0 ≤ (x7_1 : Int) := of_decide_eq_true (by first | (with_reducible assumption) | assumption)
              have q5 : x7_1 < (a0.size : Int) := of_decide_eq_true (by first | (with_reducible assumption) | assumption)
              have hx5 := bt_at a0 x7_1
              replace p5 := eq_true p5
              replace q5 := eq_true q5
              go_wp2
              go_ret
              exact ⟨by first | rfl | (simp [bneNil]; done) | (simp; done) | (simp [*]; done), by repeat (first | exact Drawn0.refl _ | apply Drawn0.step)⟩
            · rw [if_neg c6] at H
              have c6b0 : decide ((bt a0 x7_1) ≤ 32) = false := decide_eq_false c6
              clear c6
              by_cases c7 : (bt a0 x7_1) > 126
              · rw [if_pos c7] at H
                have c7b0 : decide (126 < (bt a0 x7_1)) = true := decide_eq_true c7
                clear c7
                obtain rfl := Option.some.inj H
                have p5 : 0 ≤ (x7_1 : Int) := of_decide_eq_true (by first | (with_reducible assumption) | assumption)
                have q5 : x7_1 < (a0.size : Int) := of_decide_eq_true (by first | (with_reducible assumption) | assumption)
                have hx5 := bt_at a0 x7_1
                replace p5 := eq_true p5
                replace q5 := eq_true q5
                go_wp2
                go_ret
                exact ⟨by first | rfl | (simp [bneNil]; done) | (simp; done) | (simp [*]; done), by repeat (first | exact Drawn0.refl _ | apply Drawn0.step)⟩
              · rw [if_neg c7] at H
                have c7b0 : decide (126 < (bt a0 x7_1)) = false := decide_eq_false c7
                clear c7
                by_cases c8 : (bt a0 x7_1) = 58
                · rw [if_pos c8] at H
                  have c8b0 : ((bt a0 x7_1) == 58) = true := beq_iff_eq.mpr c8
                  have c8b1 : ((bt a0 x7_1) != 58) = false := bne_eq_false_iff_eq.mpr c8
                  clear c8
                  obtain rfl := Option.some.inj H
                  have p5 : 0 ≤ (x7_1 : Int) := of_decide_eq_true (by first | (with_reducible assumption) | assumption)
                  have q5 : x7_1 < (a0.size : Int) := of_decide_eq_true (by first | (with_reducible assumption) | assumption)
                  have hx5 := bt_at a0 x7_1
                  replace p5 := eq_true p5
                  replace q5 := eq_true q5
                  go_wp2
                  go_ret
                  exact ⟨by first | rfl | (simp [bneNil]; done) | (simp; done) | (simp [*]; done), by repeat (first | exact Drawn0.refl _ | apply Drawn0.step)⟩
                · rw [if_neg c8] at H
                  have c8b0 : ((bt a0 x7_1) == 58) = false := beq_eq_false_iff_ne.mpr c8
                  have c8b1 : ((bt a0 x7_1) != 58) = true := bne_iff_ne.mpr c8
                  have H' := Aside0.mk H
                  clear H
                  have p5 : 0 ≤ (x7_1 : Int) := of_decide_eq_true (by first | (with_reducible assumption) | assumption)
                  have q5 : x7_1 < (a0.size : Int) := of_decide_eq_true (by first | (with_reducible assumption) | assumption)
                  have hx5 := bt_at a0 x7_1
                  replace p5 := eq_true p5
                  replace q5 := eq_true q5
                  go_wp2
                  go_roundg k1
                  case measure => have := HK1.out; omega
                  case rel => exact ⟨(wrap64 (x7_1 + 1)), (by first | rfl | (simp; done) | (simp [*]; done)), H', ⟨by have := HK1.out; omega⟩, by repeat (first | exact Drawn0.refl _ | apply Drawn0.step)⟩
          · rw [if_neg c4] at H
            exact absurd H (by simp)
        · rw [if_neg c3] at H
          exact absurd H (by simp)
      · rw [if_neg c2] at H
        have c2b0 : decide (x7_1 < (a0.size : Int)) = false := decide_eq_false c2
        clear c2
        obtain rfl := Option.some.inj H
        go_wp2
        go_ret
        exact ⟨by first | rfl | (simp [bneNil]; done) | (simp; done) | (simp [*]; done), by repeat (first | exact Drawn0.refl _ | apply Drawn0.step)⟩

/-! ### stringslite_HasPrefix: function 99 -/
def stringslite_HasPrefix.f (a0 : ByteArray) (a1 : ByteArray) : Option (Bool) := if (a0.size : Int) ≥ (a1.size : Int) then (if 0 ≤ (a1.size : Int) then (if (a1.size : Int) ≤ (a0.size : Int) then (some ((a0.extract 0 ((a1.size : Int) : Int).toNat).toList == a1.toList)) else (none)) else (none)) else (some false)
set_option maxHeartbeats 8000000 in
set_option maxRecDepth 100000 in
theorem stringslite_HasPrefix.calls (a0 : ByteArray) (a1 : ByteArray) (r : Bool) (w : World) (h : stringslite_HasPrefix.f a0 a1 = some r) :
    Calls Tryd.prog 99 #[.string a0, .string a1] w fun e w' => e = .returned (.bool r) ∧ Drawn0 w w' := by
  have H : (if (a0.size : Int) ≥ (a1.size : Int) then (if 0 ≤ (a1.size : Int) then (if (a1.size : Int) ≤ (a0.size : Int) then (some ((a0.extract 0 ((a1.size : Int) : Int).toNat).toList == a1.toList)) else (none)) else (none)) else (some false)) = some r := h
  clear h
  by_cases c3 : (a0.size : Int) ≥ (a1.size : Int)
  · rw [if_pos c3] at H
    have c3b0 : decide ((a1.size : Int) ≤ (a0.size : Int)) = true := decide_eq_true c3
    have c3b1 : decide (a1.size ≤ a0.size) = true := decide_eq_true (Int.ofNat_le.mp c3)
    clear c3
    by_cases c4 : 0 ≤ (a1.size : Int)
    · rw [if_pos c4] at H
      have c4b0 := eq_true c4
      have c4b1 : decide (0 ≤ (a1.size : Int)) = true := decide_eq_true c4
      clear c4
      by_cases c5 : (a1.size : Int) ≤ (a0.size : Int)
      · rw [if_pos c5] at H
        have c5b0 := eq_true c5
        have c5b1 : decide ((a1.size : Int) ≤ (a0.size : Int)) = true := decide_eq_true c5
        clear c5
        obtain rfl := Option.some.inj H
        go_enter Tryd.func99, Tryd.ntmps99
        go_wp2
        go_ret
        exact ⟨by first | rfl | (simp [bneNil]; done) | (simp; done) | (simp [*]; done), by repeat (first | exact Drawn0.refl _ | apply Drawn0.step)⟩
      · rw [if_neg c5] at H
        exact absurd H (by simp)
    · rw [if_neg c4] at H
      exact absurd H (by simp)
  · rw [if_neg c3] at H
    have c3b0 : decide ((a1.size : Int) ≤ (a0.size : Int)) = false := decide_eq_false c3
    have c3b1 : decide (a1.size ≤ a0.size) = false := decide_eq_false (fun h => c3 (Int.ofNat_le.mpr h))
    clear c3
    obtain rfl := Option.some.inj H
    go_enter Tryd.func99, Tryd.ntmps99
    go_wp2
    go_ret
    exact ⟨by first | rfl | (simp [bneNil]; done) | (simp; done) | (simp [*]; done), by repeat (first | exact Drawn0.refl _ | apply Drawn0.step)⟩

/-! ### strings_HasPrefix: function 75 -/
def strings_HasPrefix.f (a0 : ByteArray) (a1 : ByteArray) : Option (Bool) := (stringslite_HasPrefix.f a0 a1).bind fun t111 => (some t111)
set_option maxHeartbeats 8000000 in
set_option maxRecDepth 100000 in
theorem strings_HasPrefix.calls (a0 : ByteArray) (a1 : ByteArray) (r : Bool) (w : World) (h : strings_HasPrefix.f a0 a1 = some r) :
    Calls Tryd.prog 75 #[.string a0, .string a1] w fun e w' => e = .returned (.bool r) ∧ Drawn0 w w' := by
  have H : ((stringslite_HasPrefix.f a0 a1).bind fun t111 => (some t111)) = some r := h
  clear h
  replace H := Option.bind_eq_some_iff.mp H
  obtain ⟨t111, A30, H⟩ := H
  replace H : (some t111) = some r := H
  have A3 := Aside0.mk A30
  clear A30
  obtain rfl := Option.some.inj H
  go_enter Tryd.func75, Tryd.ntmps75
  go_wp2_with (first | ((with_reducible refine gate_callee (f := 99) rfl ?_); refine goesL_ (some 7) rfl rfl Tryd.func99 (by kernel_rfl) rfl #[.string a0, .string a1] rfl (by (try simp only [List.map_toArray, List.map_cons, List.map_nil]); first | done | rfl | (simp only [List.length_drop, List.length_take]; rfl)) ?_; (with_reducible refine (stringslite_HasPrefix.calls a0 a1 t111 _ A3.out).mono ?_); rintro e w' ⟨rfl, ⟨nd, rfl⟩⟩; refine ⟨_, rfl, ?_⟩))
  go_ret
  exact ⟨by first | rfl | (simp [bneNil]; done) | (simp; done) | (simp [*]; done), by repeat (first | exact Drawn0.refl _ | apply Drawn0.step)⟩

/-! ### strings_Cut: function 80 (by hand) -/
def strings_Cut.f (a0 a1 : ByteArray) : Option (ByteArray × ByteArray × Bool) := if a0.size < 4294967281 then some (⟨(Lib.cut a0.data.toList a1.data.toList).1.toArray⟩, ⟨(Lib.cut a0.data.toList a1.data.toList).2.1.toArray⟩, (Lib.cut a0.data.toList a1.data.toList).2.2) else none
theorem strings_Cut.calls (a0 a1 : ByteArray) (r1 r2 : ByteArray) (r3 : Bool) (w : World) (hG : Glob w) (h : strings_Cut.f a0 a1 = some (r1, r2, r3)) :
    Calls Tryd.prog 80 #[.string a0, .string a1] w fun e w' => e = .returned (.tuple #[.string r1, .string r2, .bool r3]) ∧ Drawn0 w w' := by
  unfold strings_Cut.f at h
  split at h
  · rename_i hs
    simp only [Option.some.injEq, Prod.mk.injEq] at h
    obtain ⟨rfl, rfl, rfl⟩ := h
    obtain ⟨m, hm⟩ := hG.mx
    refine (Tryd.strings_Cut a0 a1 m w hs hm).mono ?_
    rintro e w' ⟨rfl, nd, rfl⟩
    exact ⟨rfl, ⟨nd, rfl⟩⟩
  · cases h


/-! ### strings_Trim: function 15 (by hand) -/
def strings_Trim.f (a0 a1 : ByteArray) : Option ByteArray := if a0.size ≤ 9223372036854775807 ∧ a1.size < 4294967281 ∧ (a1.data.toList.all fun b => decide (b.toNat < 128)) = true then some ⟨(Lib.trimS a0.data.toList a1.data.toList).toArray⟩ else none
theorem strings_Trim.calls (a0 a1 : ByteArray) (r : ByteArray) (w : World) (h : strings_Trim.f a0 a1 = some r) :
    Calls Tryd.prog 15 #[.string a0, .string a1] w fun e w' => e = .returned (.string r) ∧ Below w.heap.size w w' := by
  unfold strings_Trim.f at h
  by_cases hc : a0.size ≤ 9223372036854775807 ∧ a1.size < 4294967281 ∧ (a1.data.toList.all fun b => decide (b.toNat < 128)) = true
  · rw [if_pos hc] at h
    obtain rfl := Option.some.inj h
    refine Any.strings_Trim_laid Tryd.lays160 (by kernel_rfl) a0 a1 w hc.1 hc.2.1 (fun j b hj => ?_)
    have := List.all_eq_true.1 hc.2.2 b (List.mem_of_getElem? hj)
    simpa using this
  · rw [if_neg hc] at h; cases h


/-! ### text_Trim: function 81 -/
def text_Trim.f (a0 : ByteArray) : Option (ByteArray) := (strings_Trim.f a0 (⟨#[32, 9]⟩ : ByteArray)).bind fun t112 => (some t112)
set_option maxHeartbeats 8000000 in
set_option maxRecDepth 100000 in
theorem text_Trim.calls (a0 : ByteArray) (r : ByteArray) (w : World) (h : text_Trim.f a0 = some r) :
    Calls Tryd.prog 81 #[.string a0] w fun e w' => e = .returned (.string r) ∧ Below w.heap.size w w' := by
  have HB := Aside0.mk (Below.refl w.heap.size w)
  have H : ((strings_Trim.f a0 (⟨#[32, 9]⟩ : ByteArray)).bind fun t112 => (some t112)) = some r := h
  clear h
  replace H := Option.bind_eq_some_iff.mp H
  obtain ⟨t112, A20, H⟩ := H
  replace H : (some t112) = some r := H
  have A2 := Aside0.mk A20
  clear A20
  obtain rfl := Option.some.inj H
  go_enter Tryd.func81, Tryd.ntmps81
  go_wp2_with (first | ((with_reducible refine gate_callee (f := 15) rfl ?_); refine goesL_ (some 4) rfl rfl Tryd.func15 (by kernel_rfl) rfl #[.string a0, .string (⟨#[32, 9]⟩ : ByteArray)] rfl (by (try simp only [List.map_toArray, List.map_cons, List.map_nil]); first | done | rfl | (simp only [List.length_drop, List.length_take]; rfl)) ?_; (with_reducible refine (strings_Trim.calls a0 (⟨#[32, 9]⟩ : ByteArray) t112 _ A2.out).mono ?_); rintro e w3 ⟨rfl, hb⟩; refine ⟨_, rfl, ?_⟩; have n0_ := Aside0.mk (below_step (by repeat (first | (with_reducible first | exact HB.out | apply below_alloc | apply pw_below_drewN | apply below_drew1) | exact HB.out)) hb); clear HB; have HB := n0_; clear n0_; (try clear hb); (try clear hb2); (try clear hk); (try clear hi)))
  go_ret
  exact ⟨by first | rfl | (simp [bneNil]; done) | (simp [errW_none, errW_some] <;> rfl) | (simp [*, errW_none, errW_some] <;> rfl), by repeat (first | (with_reducible first | exact HB.out | apply below_alloc | apply pw_below_drewN | apply below_drew1) | exact HB.out)⟩

end Go.Proofs.YtdciiahlakgikaaDoor.Q
end
section
namespace Go.Proofs.YtdciiahlakgikaaDoor.Q
open Go.RowKit Go.Proofs.YtdciiahlakgikaaDoorW.PrintWords Go.Proofs.YtdciiahlakgikaaDoorW.PrintLast Go.Proofs.YtdciiahlakgikaaDoorW.PrintMore
attribute [local go_sem] max2_int min2_int max_two min_two max_three min_three max_four min_four   -- for this text's walks alone
set_option linter.unusedVariables false
set_option linter.unusedSimpArgs false

/-! ### head_field: function 42 -/
def head_field.f (k : Nat) (l0 : List ByteArray) : Option (ByteArray × ByteArray × ByteArray × Bool) := (strings_Join.f l0 (⟨#[]⟩ : ByteArray)).bind fun t114 => ((strings_Cut.f t114 (⟨#[58]⟩ : ByteArray)).bind fun bt115 => ((text_Trim.f bt115.1).bind fun t118 => (if 0 < (l0.length : Int) then ((strings_Contains.f (rdOf ByteArray.empty l0 0) (⟨#[58]⟩ : ByteArray)).bind fun t120 => ((text_Trim.f bt115.2.1).bind fun t121 => ((strings_Join.f l0 (⟨#[13, 10]⟩ : ByteArray)).bind fun t122 => (if t122.size + 2 ≤ 9223372036854775807 then (if bt115.2.2 = true then (if t120 = true then ((head_named.f k t118).bind fun t123 => (if t123 = true then ((strings_HasPrefix.f bt115.1 t118).bind fun t124 => (some (t118, t121, t122 ++ (⟨#[13, 10]⟩ : ByteArray), t124))) else (some (t118, t121, t122 ++ (⟨#[13, 10]⟩ : ByteArray), false)))) else (some (t118, t121, t122 ++ (⟨#[13, 10]⟩ : ByteArray), false))) else (some (t118, t121, t122 ++ (⟨#[13, 10]⟩ : ByteArray), false))) else (none))))) else (none))))
theorem head_field.mono : ∀ a0 k, LeO (head_field.f k a0) (head_field.f (k + 1) a0) := by
 intro a0 k
 unfold head_field.f
 repeat' first
   | (with_reducible exact head_named.mono _ _)
   | (with_reducible exact LeO.refl _)
   | (with_reducible exact LeO.none _)
   | (with_reducible refine LeO.ite ?_ ?_)
   | (with_reducible refine LeO.bind ?_ (fun _ => ?_))
   | exact head_named.mono _ _
   | exact LeO.none _
   | refine LeO.ite ?_ ?_
   | refine LeO.bind ?_ (fun _ => ?_)
set_option maxHeartbeats 8000000 in
set_option maxRecDepth 100000 in
theorem head_field.calls (k : Nat) (A0 : Option Addr) (c0 : Nat) (l0 : List ByteArray) (r1 : ByteArray) (r2 : ByteArray) (r3 : ByteArray) (r4 : Bool) (w : World) (hr0 : Kd.C Kd.string w A0 l0.length l0) (hc0 : l0.length ≤ c0) (hG : Glob w) (h : head_field.f k l0 = some (r1, r2, r3, r4)) :
  Calls Tryd.prog 42 #[.slice A0 l0.length c0] w fun e w' => e = .returned (.tuple #[.agg #[.string r1, .string r2, .string r3], .bool r4]) ∧ Below w.heap.size w w' := by
 have hu41 := Tryd.underlying41
 have HR0 := Aside0.mk hr0
 have HC0 := Aside0.mk hc0
 clear hr0 hc0
 have HB := Aside0.mk (Below.refl w.heap.size w)
 have HG := Aside0.mk hG
 clear hG
 have H : ((strings_Join.f l0 (⟨#[]⟩ : ByteArray)).bind fun t114 => ((strings_Cut.f t114 (⟨#[58]⟩ : ByteArray)).bind fun bt115 => ((text_Trim.f bt115.1).bind fun t118 => (if 0 < (l0.length : Int) then ((strings_Contains.f (rdOf ByteArray.empty l0 0) (⟨#[58]⟩ : ByteArray)).bind fun t120 => ((text_Trim.f bt115.2.1).bind fun t121 => ((strings_Join.f l0 (⟨#[13, 10]⟩ : ByteArray)).bind fun t122 => (if t122.size + 2 ≤ 9223372036854775807 then (if bt115.2.2 = true then (if t120 = true then ((head_named.f k t118).bind fun t123 => (if t123 = true then ((strings_HasPrefix.f bt115.1 t118).bind fun t124 => (some (t118, t121, t122 ++ (⟨#[13, 10]⟩ : ByteArray), t124))) else (some (t118, t121, t122 ++ (⟨#[13, 10]⟩ : ByteArray), false)))) else (some (t118, t121, t122 ++ (⟨#[13, 10]⟩ : ByteArray), false))) else (some (t118, t121, t122 ++ (⟨#[13, 10]⟩ : ByteArray), false))) else (none))))) else (none))))) = some (r1, r2, r3, r4) := h
 clear h
 replace H := Option.bind_eq_some_iff.mp H
 obtain ⟨t114, A20, H⟩ := H
 replace H : ((strings_Cut.f t114 (⟨#[58]⟩ : ByteArray)).bind fun bt115 => ((text_Trim.f bt115.1).bind fun t118 => (if 0 < (l0.length : Int) then ((strings_Contains.f (rdOf ByteArray.empty l0 0) (⟨#[58]⟩ : ByteArray)).bind fun t120 => ((text_Trim.f bt115.2.1).bind fun t121 => ((strings_Join.f l0 (⟨#[13, 10]⟩ : ByteArray)).bind fun t122 => (if t122.size + 2 ≤ 9223372036854775807 then (if bt115.2.2 = true then (if t120 = true then ((head_named.f k t118).bind fun t123 => (if t123 = true then ((strings_HasPrefix.f bt115.1 t118).bind fun t124 => (some (t118, t121, t122 ++ (⟨#[13, 10]⟩ : ByteArray), t124))) else (some (t118, t121, t122 ++ (⟨#[13, 10]⟩ : ByteArray), false)))) else (some (t118, t121, t122 ++ (⟨#[13, 10]⟩ : ByteArray), false))) else (some (t118, t121, t122 ++ (⟨#[13, 10]⟩ : ByteArray), false))) else (none))))) else (none)))) = some (r1, r2, r3, r4) := H
 have A2 := Aside0.mk A20
 clear A20
 replace H := Option.bind_eq_some_iff.mp H
 obtain ⟨⟨t115, t116, t117⟩, A30, H⟩ := H
 replace H : ((text_Trim.f t115).bind fun t118 => (if 0 < (l0.length : Int) then ((strings_Contains.f (rdOf ByteArray.empty l0 0) (⟨#[58]⟩ : ByteArray)).bind fun t120 => ((text_Trim.f t116).bind fun t121 => ((strings_Join.f l0 (⟨#[13, 10]⟩ : ByteArray)).bind fun t122 => (if t122.size + 2 ≤ 9223372036854775807 then (if t117 = true then (if t120 = true then ((head_named.f k t118).bind fun t123 => (if t123 = true then ((strings_HasPrefix.f t115 t118).bind fun t124 => (some (t118, t121, t122 ++ (⟨#[13, 10]⟩ : ByteArray), t124))) else (some (t118, t121, t122 ++ (⟨#[13, 10]⟩ : ByteArray), false)))) else (some (t118, t121, t122 ++ (⟨#[13, 10]⟩ : ByteArray), false))) else (some (t118, t121, t122 ++ (⟨#[13, 10]⟩ : ByteArray), false))) else (none))))) else (none))) = some (r1, r2, r3, r4) := H
 have A3 := Aside0.mk A30
 clear A30
 replace H := Option.bind_eq_some_iff.mp H
 obtain ⟨t118, A40, H⟩ := H
 replace H : (if 0 < (l0.length : Int) then ((strings_Contains.f (rdOf ByteArray.empty l0 0) (⟨#[58]⟩ : ByteArray)).bind fun t120 => ((text_Trim.f t116).bind fun t121 => ((strings_Join.f l0 (⟨#[13, 10]⟩ : ByteArray)).bind fun t122 => (if t122.size + 2 ≤ 9223372036854775807 then (if t117 = true then (if t120 = true then ((head_named.f k t118).bind fun t123 => (if t123 = true then ((strings_HasPrefix.f t115 t118).bind fun t124 => (some (t118, t121, t122 ++ (⟨#[13, 10]⟩ : ByteArray), t124))) else (some (t118, t121, t122 ++ (⟨#[13, 10]⟩ : ByteArray), false)))) else (some (t118, t121, t122 ++ (⟨#[13, 10]⟩ : ByteArray), false))) else (some (t118, t121, t122 ++ (⟨#[13, 10]⟩ : ByteArray), false))) else (none))))) else (none)) = some (r1, r2, r3, r4) := H
 have A4 := Aside0.mk A40
 clear A40
 by_cases c5 : 0 < (l0.length : Int)
 ·rw [if_pos c5] at H
  have c5b0 : decide (0 < (l0.length : Int)) = true := decide_eq_true c5
  have c5b1 : decide (0 < l0.length) = true := decide_eq_true (by omega)
  clear c5
  replace H := Option.bind_eq_some_iff.mp H
  obtain ⟨t120, A60, H⟩ := H
  replace H : ((text_Trim.f t116).bind fun t121 => ((strings_Join.f l0 (⟨#[13, 10]⟩ : ByteArray)).bind fun t122 => (if t122.size + 2 ≤ 9223372036854775807 then (if t117 = true then (if t120 = true then ((head_named.f k t118).bind fun t123 => (if t123 = true then ((strings_HasPrefix.f t115 t118).bind fun t124 => (some (t118, t121, t122 ++ (⟨#[13, 10]⟩ : ByteArray), t124))) else (some (t118, t121, t122 ++ (⟨#[13, 10]⟩ : ByteArray), false)))) else (some (t118, t121, t122 ++ (⟨#[13, 10]⟩ : ByteArray), false))) else (some (t118, t121, t122 ++ (⟨#[13, 10]⟩ : ByteArray), false))) else (none)))) = some (r1, r2, r3, r4) := H
  have A6 := Aside0.mk A60
  clear A60
  replace H := Option.bind_eq_some_iff.mp H
  obtain ⟨t121, A70, H⟩ := H
  replace H : ((strings_Join.f l0 (⟨#[13, 10]⟩ : ByteArray)).bind fun t122 => (if t122.size + 2 ≤ 9223372036854775807 then (if t117 = true then (if t120 = true then ((head_named.f k t118).bind fun t123 => (if t123 = true then ((strings_HasPrefix.f t115 t118).bind fun t124 => (some (t118, t121, t122 ++ (⟨#[13, 10]⟩ : ByteArray), t124))) else (some (t118, t121, t122 ++ (⟨#[13, 10]⟩ : ByteArray), false)))) else (some (t118, t121, t122 ++ (⟨#[13, 10]⟩ : ByteArray), false))) else (some (t118, t121, t122 ++ (⟨#[13, 10]⟩ : ByteArray), false))) else (none))) = some (r1, r2, r3, r4) := H
  have A7 := Aside0.mk A70
  clear A70
  replace H := Option.bind_eq_some_iff.mp H
  obtain ⟨t122, A80, H⟩ := H
  replace H : (if t122.size + 2 ≤ 9223372036854775807 then (if t117 = true then (if t120 = true then ((head_named.f k t118).bind fun t123 => (if t123 = true then ((strings_HasPrefix.f t115 t118).bind fun t124 => (some (t118, t121, t122 ++ (⟨#[13, 10]⟩ : ByteArray), t124))) else (some (t118, t121, t122 ++ (⟨#[13, 10]⟩ : ByteArray), false)))) else (some (t118, t121, t122 ++ (⟨#[13, 10]⟩ : ByteArray), false))) else (some (t118, t121, t122 ++ (⟨#[13, 10]⟩ : ByteArray), false))) else (none)) = some (r1, r2, r3, r4) := H
  have A8 := Aside0.mk A80
  clear A80
  by_cases c9 : t122.size + 2 ≤ 9223372036854775807
  ·rw [if_pos c9] at H
   have c9b0 := eq_true c9
   have c9b1 : decide (t122.size + 2 ≤ 9223372036854775807) = true := decide_eq_true c9
   try have c9b2 : (9223372036854775807 < t122.size + 2) = False := eq_false (Nat.not_lt.2 c9)
   by_cases c10 : t117 = true
   ·subst c10
    have H1 : (if t120 = true then ((head_named.f k t118).bind fun t123 => (if t123 = true then ((strings_HasPrefix.f t115 t118).bind fun t124 => (some (t118, t121, t122 ++ (⟨#[13, 10]⟩ : ByteArray), t124))) else (some (t118, t121, t122 ++ (⟨#[13, 10]⟩ : ByteArray), false)))) else (some (t118, t121, t122 ++ (⟨#[13, 10]⟩ : ByteArray), false))) = some (r1, r2, r3, r4) := by rw [if_pos rfl] at H; exact H
    clear H
    have H := H1
    clear H1
    by_cases c11 : t120 = true
    ·subst c11
     have H1 : ((head_named.f k t118).bind fun t123 => (if t123 = true then ((strings_HasPrefix.f t115 t118).bind fun t124 => (some (t118, t121, t122 ++ (⟨#[13, 10]⟩ : ByteArray), t124))) else (some (t118, t121, t122 ++ (⟨#[13, 10]⟩ : ByteArray), false)))) = some (r1, r2, r3, r4) := by rw [if_pos rfl] at H; exact H
     clear H
     have H := H1
     clear H1
     replace H := Option.bind_eq_some_iff.mp H
     obtain ⟨t123, A120, H⟩ := H
     replace H : (if t123 = true then ((strings_HasPrefix.f t115 t118).bind fun t124 => (some (t118, t121, t122 ++ (⟨#[13, 10]⟩ : ByteArray), t124))) else (some (t118, t121, t122 ++ (⟨#[13, 10]⟩ : ByteArray), false))) = some (r1, r2, r3, r4) := H
     have A12 := Aside0.mk A120
     clear A120
     by_cases c13 : t123 = true
     ·subst c13
      have H1 : ((strings_HasPrefix.f t115 t118).bind fun t124 => (some (t118, t121, t122 ++ (⟨#[13, 10]⟩ : ByteArray), t124))) = some (r1, r2, r3, r4) := by rw [if_pos rfl] at H; exact H
      clear H
      have H := H1
      clear H1
      replace H := Option.bind_eq_some_iff.mp H
      obtain ⟨t124, A140, H⟩ := H
      replace H : (some (t118, t121, t122 ++ (⟨#[13, 10]⟩ : ByteArray), t124)) = some (r1, r2, r3, r4) := H
      have A14 := Aside0.mk A140
      clear A140
      simp only [Option.some.injEq, Prod.mk.injEq] at H
      obtain ⟨rfl, rfl, rfl, rfl⟩ := H
      go_enter Tryd.func42, Tryd.ntmps42
      go_wp2_with (first | ((with_reducible refine gate_dst (N := 2) rfl ?_); refine box_event ?hg (N := 2) ?hd (cs := #[.string (⟨#[]⟩ : ByteArray), .string (⟨#[]⟩ : ByteArray), .string (⟨#[]⟩ : ByteArray)]) (t := 41) ?hr ?_; (case hd => rfl); (case hg => rfl); (case hr => first | (go_simp; done) | (go_simp; rfl)); intro gb113 hg w15 hbox hb; have n0_ := Aside0.mk (below_step bl hb); have n1_ := Aside0.mk (hbox); have n2_ := Aside0.mk ((by rw [hg]; exact (below_size bl) : w.heap.size ≤ gb113)); have n3_ := Aside0.mk ((by rw [hg]; exact (below_size bl) : w.heap.size ≤ gb113)); clear HB; have HB := n0_; have BK113 := n1_; have GW113 := n2_; have GE113 := n3_; clear n0_ n1_ n2_ n3_; clear hb hbox hg) | ((with_reducible refine gate_callee (f := 19) rfl ?_); refine goesL_ (some 11) rfl rfl Tryd.func19 (by kernel_rfl) rfl #[.slice A0 l0.length c0, .string (⟨#[]⟩ : ByteArray)] rfl ml ?_; (with_reducible refine (strings_Join.calls _ _ l0 (⟨#[]⟩ : ByteArray) t114 _ ?side1 ?side2 A2.out).mono ?_); (case side1 => repeat (first | exact (Kd.C_below HR0.out HB.out) | (with_reducible refine Kd.C_alloc ?_ _) | (with_reducible refine Kd.C_drewN ?_ _) | (with_reducible refine Kd.C_drew ?_))); (case side2 => exact HC0.out); rintro e w16 ⟨rfl, hb⟩; refine ⟨_, rfl, ?_⟩; have n0_ := Aside0.mk (kb BK113.out hb); have n1_ := Aside0.mk (below_step bl hb); clear BK113; clear HB; have BK113 := n0_; have HB := n1_; clear n0_ n1_; (try clear hb); (try clear hb2); (try clear hk); (try clear hi)) | ((with_reducible refine gate_callee (f := 80) rfl ?_); refine goesL_ (some 12) rfl rfl Tryd.func80 (by kernel_rfl) rfl #[.string t114, .string (⟨#[58]⟩ : ByteArray)] rfl ml ?_; (with_reducible refine (strings_Cut.calls t114 (⟨#[58]⟩ : ByteArray) t115 t116 true _ ?side1 A3.out).mono ?_); (case side1 => exact Glob.below HG.out bl); rintro e w' ⟨rfl, ⟨nd, rfl⟩⟩; refine ⟨_, rfl, ?_⟩; (try (rw [drewN_self w16]; generalize hq_ : World.drewN w16 _ = w16; have n0_ : Aside0 (w16.heap[gb113]? = some (.cells #[.string (⟨#[]⟩ : ByteArray), .string (⟨#[]⟩ : ByteArray), .string (⟨#[]⟩ : ByteArray)] 41 (0, 0))) := ⟨by rw [← hq_]; exact (bk BK113.out)⟩; have n1_ : Aside0 (Below w.heap.size w w16) := ⟨by rw [← hq_]; exact bl⟩; clear BK113 HB hq_; have BK113 := n0_; have HB := n1_; clear n0_ n1_))) | ((with_reducible refine gate_callee (f := 81) rfl ?_); refine goesL_ (some 17) rfl rfl Tryd.func81 (by kernel_rfl) rfl #[.string t115] rfl ml ?_; (with_reducible refine (text_Trim.calls t115 t118 _ A4.out).mono ?_); rintro e w17 ⟨rfl, hb⟩; refine ⟨_, rfl, ?_⟩; have n0_ := Aside0.mk (kb BK113.out hb); have n1_ := Aside0.mk (below_step bl hb); clear BK113; clear HB; have BK113 := n0_; have HB := n1_; clear n0_ n1_; (try clear hb); (try clear hb2); (try clear hk); (try clear hi); have p119 : 0 ≤ (0 : Int) := (by omega); have q119 : 0 < (l0.length : Int) := od; obtain ⟨ad119, e119, hx119_0⟩ := Kd.at_string HR0.out 0 p119 q119; cases e119; have qi119 : (0 < l0.length) = True := eq_true (by omega); (try rw [show ((0 : Int)).toNat = 0 from rfl] at hx119_0); (try rw [Addr.add_zero'] at hx119_0); replace hx119_0 := (HB.out.cell (World.block_lt_of_cell? w _ hx119_0)).trans hx119_0; replace p119 := eq_true p119; replace q119 := eq_true q119) | ((with_reducible refine gate_callee (f := 20) rfl ?_); refine goesL_ (some 21) rfl rfl Tryd.func20 (by kernel_rfl) rfl #[.string (rdOf ByteArray.empty l0 0), .string (⟨#[58]⟩ : ByteArray)] rfl ml ?_; (with_reducible refine (strings_Contains.calls (rdOf ByteArray.empty l0 0) (⟨#[58]⟩ : ByteArray) true _ ?side1 A6.out).mono ?_); (case side1 => exact Glob.below HG.out bl); rintro e w' ⟨rfl, ⟨nd, rfl⟩⟩; refine ⟨_, rfl, ?_⟩; (try (rw [drewN_self w17]; generalize hq_ : World.drewN w17 _ = w17; have n0_ : Aside0 (w17.heap[gb113]? = some (.cells #[.string (⟨#[]⟩ : ByteArray), .string (⟨#[]⟩ : ByteArray), .string (⟨#[]⟩ : ByteArray)] 41 (0, 0))) := ⟨by rw [← hq_]; exact (bk BK113.out)⟩; have n1_ : Aside0 (Below w.heap.size w w17) := ⟨by rw [← hq_]; exact bl⟩; clear BK113 HB hq_; have BK113 := n0_; have HB := n1_; clear n0_ n1_))) | ((with_reducible refine gate_callee (f := 81) rfl ?_); refine goesL_ (some 24) rfl rfl Tryd.func81 (by kernel_rfl) rfl #[.string t116] rfl ml ?_; (with_reducible refine (text_Trim.calls t116 t121 _ A7.out).mono ?_); rintro e w18 ⟨rfl, hb⟩; refine ⟨_, rfl, ?_⟩; have n0_ := Aside0.mk (kb BK113.out hb); have n1_ := Aside0.mk (below_step bl hb); clear BK113; clear HB; have BK113 := n0_; have HB := n1_; clear n0_ n1_; (try clear hb); (try clear hb2); (try clear hk); (try clear hi)) | ((with_reducible refine gate_callee (f := 19) rfl ?_); refine goesL_ (some 26) rfl rfl Tryd.func19 (by kernel_rfl) rfl #[.slice (some ad119) l0.length c0, .string (⟨#[13, 10]⟩ : ByteArray)] rfl ml ?_; (with_reducible refine (strings_Join.calls _ _ l0 (⟨#[13, 10]⟩ : ByteArray) t122 _ ?side1 ?side2 A8.out).mono ?_); (case side1 => repeat (first | exact (Kd.C_below HR0.out HB.out) | (with_reducible refine Kd.C_alloc ?_ _) | (with_reducible refine Kd.C_drewN ?_ _) | (with_reducible refine Kd.C_drew ?_))); (case side2 => exact HC0.out); rintro e w19 ⟨rfl, hb⟩; refine ⟨_, rfl, ?_⟩; have n0_ := Aside0.mk (kb BK113.out hb); have n1_ := Aside0.mk (below_step bl hb); clear BK113; clear HB; have BK113 := n0_; have HB := n1_; clear n0_ n1_; (try clear hb); (try clear hb2); (try clear hk); (try clear hi)) | (go_at_call 46; (with_reducible refine (head_named.calls k t118 true _ A12.out).mono ?_); rintro e w' ⟨rfl, ⟨nd, rfl⟩⟩; (try (rw [drewN_self w19]; generalize hq_ : World.drewN w19 _ = w19; have n0_ : Aside0 (w19.heap[gb113]? = some (.cells #[.string (⟨#[]⟩ : ByteArray), .string (⟨#[]⟩ : ByteArray), .string (⟨#[]⟩ : ByteArray)] 41 (0, 0))) := ⟨by rw [← hq_]; exact (bk BK113.out)⟩; have n1_ : Aside0 (Below w.heap.size w w19) := ⟨by rw [← hq_]; exact bl⟩; clear BK113 HB hq_; have BK113 := n0_; have HB := n1_; clear n0_ n1_))) | (go_at_call 75; (with_reducible refine (strings_HasPrefix.calls t115 t118 t124 _ A14.out).mono ?_); rintro e w' ⟨rfl, ⟨nd, rfl⟩⟩; (try (rw [drewN_self w19]; generalize hq_ : World.drewN w19 _ = w19; have n0_ : Aside0 (w19.heap[gb113]? = some (.cells #[.string (⟨#[]⟩ : ByteArray), .string (⟨#[]⟩ : ByteArray), .string (⟨#[]⟩ : ByteArray)] 41 (0, 0))) := ⟨by rw [← hq_]; exact (bk BK113.out)⟩; have n1_ : Aside0 (Below w.heap.size w w19) := ⟨by rw [← hq_]; exact bl⟩; clear BK113 HB hq_; have BK113 := n0_; have HB := n1_; clear n0_ n1_)); have hcz20_0 : w19.cell? ⟨gb113, 0, none⟩ = some (.string (⟨#[]⟩ : ByteArray)) := (blk_cell BK113.out 0).trans rfl; have hcz20_1 : w19.cell? ⟨gb113, 1, none⟩ = some (.string (⟨#[]⟩ : ByteArray)) := (blk_cell BK113.out 1).trans rfl; have hcz20_2 : w19.cell? ⟨gb113, 2, none⟩ = some (.string (⟨#[]⟩ : ByteArray)) := (blk_cell BK113.out 2).trans rfl; have hfz20_0 := blk_frozen BK113.out 0; have hfz20_1 := blk_frozen BK113.out 1; have hfz20_2 := blk_frozen BK113.out 2))
      refine bodyPost_ret (results_ct rfl _ _ gb113 41 #[.string t118, .string t121, .string (t122 ++ (⟨#[13, 10]⟩ : ByteArray))] (0, 0) _ rfl (by (with_reducible repeat (first | refine blk_drewN ?_ _ | refine blk_drew ?_ | refine blk_alloc ?_ _)); refine blk_put (cs := #[.string t118, .string t121, .string (⟨#[]⟩ : ByteArray)]) ?_ 2 _ rfl; (with_reducible repeat (first | refine blk_drewN ?_ _ | refine blk_drew ?_ | refine blk_alloc ?_ _)); refine blk_put (cs := #[.string t118, .string (⟨#[]⟩ : ByteArray), .string (⟨#[]⟩ : ByteArray)]) ?_ 1 _ rfl; (with_reducible repeat (first | refine blk_drewN ?_ _ | refine blk_drew ?_ | refine blk_alloc ?_ _)); refine blk_put (cs := #[.string (⟨#[]⟩ : ByteArray), .string (⟨#[]⟩ : ByteArray), .string (⟨#[]⟩ : ByteArray)]) ?_ 0 _ rfl; (with_reducible repeat (first | refine blk_drewN ?_ _ | refine blk_drew ?_ | refine blk_alloc ?_ _)); exact BK113.out) Tryd.underlying41 rfl (by kernel_rfl)) rfl ?_
      exact ⟨by first | rfl | (simp [bneNil]; done) | (simp [errW_none, errW_some] <;> rfl) | (simp [*, errW_none, errW_some] <;> rfl), by repeat (first | (with_reducible first | exact HB.out | apply below_alloc | apply pw_below_drewN | apply below_drew1 | refine below_set ?_ GE113.out) | exact HB.out)⟩
     ·replace c13 := Bool.eq_false_iff.mpr c13
      subst c13
      have H1 : (some (t118, t121, t122 ++ (⟨#[13, 10]⟩ : ByteArray), false)) = some (r1, r2, r3, r4) := by rw [if_neg (show ¬ (false = true) by decide)] at H; exact H
      clear H
      have H := H1
      clear H1
      simp only [Option.some.injEq, Prod.mk.injEq] at H
      obtain ⟨rfl, rfl, rfl, rfl⟩ := H
      go_enter Tryd.func42, Tryd.ntmps42
      go_wp2_with (first | ((with_reducible refine gate_dst (N := 2) rfl ?_); refine box_event ?hg (N := 2) ?hd (cs := #[.string (⟨#[]⟩ : ByteArray), .string (⟨#[]⟩ : ByteArray), .string (⟨#[]⟩ : ByteArray)]) (t := 41) ?hr ?_; (case hd => rfl); (case hg => rfl); (case hr => first | (go_simp; done) | (go_simp; rfl)); intro gb113 hg w21 hbox hb; have n0_ := Aside0.mk (below_step bl hb); have n1_ := Aside0.mk (hbox); have n2_ := Aside0.mk ((by rw [hg]; exact (below_size bl) : w.heap.size ≤ gb113)); have n3_ := Aside0.mk ((by rw [hg]; exact (below_size bl) : w.heap.size ≤ gb113)); clear HB; have HB := n0_; have BK113 := n1_; have GW113 := n2_; have GE113 := n3_; clear n0_ n1_ n2_ n3_; clear hb hbox hg) | ((with_reducible refine gate_callee (f := 19) rfl ?_); refine goesL_ (some 11) rfl rfl Tryd.func19 (by kernel_rfl) rfl #[.slice A0 l0.length c0, .string (⟨#[]⟩ : ByteArray)] rfl ml ?_; (with_reducible refine (strings_Join.calls _ _ l0 (⟨#[]⟩ : ByteArray) t114 _ ?side1 ?side2 A2.out).mono ?_); (case side1 => repeat (first | exact (Kd.C_below HR0.out HB.out) | (with_reducible refine Kd.C_alloc ?_ _) | (with_reducible refine Kd.C_drewN ?_ _) | (with_reducible refine Kd.C_drew ?_))); (case side2 => exact HC0.out); rintro e w22 ⟨rfl, hb⟩; refine ⟨_, rfl, ?_⟩; have n0_ := Aside0.mk (kb BK113.out hb); have n1_ := Aside0.mk (below_step bl hb); clear BK113; clear HB; have BK113 := n0_; have HB := n1_; clear n0_ n1_; (try clear hb); (try clear hb2); (try clear hk); (try clear hi)) | ((with_reducible refine gate_callee (f := 80) rfl ?_); refine goesL_ (some 12) rfl rfl Tryd.func80 (by kernel_rfl) rfl #[.string t114, .string (⟨#[58]⟩ : ByteArray)] rfl ml ?_; (with_reducible refine (strings_Cut.calls t114 (⟨#[58]⟩ : ByteArray) t115 t116 true _ ?side1 A3.out).mono ?_); (case side1 => exact Glob.below HG.out bl); rintro e w' ⟨rfl, ⟨nd, rfl⟩⟩; refine ⟨_, rfl, ?_⟩; (try (rw [drewN_self w22]; generalize hq_ : World.drewN w22 _ = w22; have n0_ : Aside0 (w22.heap[gb113]? = some (.cells #[.string (⟨#[]⟩ : ByteArray), .string (⟨#[]⟩ : ByteArray), .string (⟨#[]⟩ : ByteArray)] 41 (0, 0))) := ⟨by rw [← hq_]; exact (bk BK113.out)⟩; have n1_ : Aside0 (Below w.heap.size w w22) := ⟨by rw [← hq_]; exact bl⟩; clear BK113 HB hq_; have BK113 := n0_; have HB := n1_; clear n0_ n1_))) | ((with_reducible refine gate_callee (f := 81) rfl ?_); refine goesL_ (some 17) rfl rfl Tryd.func81 (by kernel_rfl) rfl #[.string t115] rfl ml ?_; (with_reducible refine (text_Trim.calls t115 t118 _ A4.out).mono ?_); rintro e w23 ⟨rfl, hb⟩; refine ⟨_, rfl, ?_⟩; have n0_ := Aside0.mk (kb BK113.out hb); have n1_ := Aside0.mk (below_step bl hb); clear BK113; clear HB; have BK113 := n0_; have HB := n1_; clear n0_ n1_; (try clear hb); (try clear hb2); (try clear hk); (try clear hi); have p119 : 0 ≤ (0 : Int) := (by omega); have q119 : 0 < (l0.length : Int) := od; obtain ⟨ad119, e119, hx119_0⟩ := Kd.at_string HR0.out 0 p119 q119; cases e119; have qi119 : (0 < l0.length) = True := eq_true (by omega); (try rw [show ((0 : Int)).toNat = 0 from rfl] at hx119_0); (try rw [Addr.add_zero'] at hx119_0); replace hx119_0 := (HB.out.cell (World.block_lt_of_cell? w _ hx119_0)).trans hx119_0; replace p119 := eq_true p119; replace q119 := eq_true q119) | ((with_reducible refine gate_callee (f := 20) rfl ?_); refine goesL_ (some 21) rfl rfl Tryd.func20 (by kernel_rfl) rfl #[.string (rdOf ByteArray.empty l0 0), .string (⟨#[58]⟩ : ByteArray)] rfl ml ?_; (with_reducible refine (strings_Contains.calls (rdOf ByteArray.empty l0 0) (⟨#[58]⟩ : ByteArray) true _ ?side1 A6.out).mono ?_); (case side1 => exact Glob.below HG.out bl); rintro e w' ⟨rfl, ⟨nd, rfl⟩⟩; refine ⟨_, rfl, ?_⟩; (try (rw [drewN_self w23]; generalize hq_ : World.drewN w23 _ = w23; have n0_ : Aside0 (w23.heap[gb113]? = some (.cells #[.string (⟨#[]⟩ : ByteArray), .string (⟨#[]⟩ : ByteArray), .string (⟨#[]⟩ : ByteArray)] 41 (0, 0))) := ⟨by rw [← hq_]; exact (bk BK113.out)⟩; have n1_ : Aside0 (Below w.heap.size w w23) := ⟨by rw [← hq_]; exact bl⟩; clear BK113 HB hq_; have BK113 := n0_; have HB := n1_; clear n0_ n1_))) | ((with_reducible refine gate_callee (f := 81) rfl ?_); refine goesL_ (some 24) rfl rfl Tryd.func81 (by kernel_rfl) rfl #[.string t116] rfl ml ?_; (with_reducible refine (text_Trim.calls t116 t121 _ A7.out).mono ?_); rintro e w24 ⟨rfl, hb⟩; refine ⟨_, rfl, ?_⟩; have n0_ := Aside0.mk (kb BK113.out hb); have n1_ := Aside0.mk (below_step bl hb); clear BK113; clear HB; have BK113 := n0_; have HB := n1_; clear n0_ n1_; (try clear hb); (try clear hb2); (try clear hk); (try clear hi)) | ((with_reducible refine gate_callee (f := 19) rfl ?_); refine goesL_ (some 26) rfl rfl Tryd.func19 (by kernel_rfl) rfl #[.slice (some ad119) l0.length c0, .string (⟨#[13, 10]⟩ : ByteArray)] rfl ml ?_; (with_reducible refine (strings_Join.calls _ _ l0 (⟨#[13, 10]⟩ : ByteArray) t122 _ ?side1 ?side2 A8.out).mono ?_); (case side1 => repeat (first | exact (Kd.C_below HR0.out HB.out) | (with_reducible refine Kd.C_alloc ?_ _) | (with_reducible refine Kd.C_drewN ?_ _) | (with_reducible refine Kd.C_drew ?_))); (case side2 => exact HC0.out); rintro e w25 ⟨rfl, hb⟩; refine ⟨_, rfl, ?_⟩; have n0_ := Aside0.mk (kb BK113.out hb); have n1_ := Aside0.mk (below_step bl hb); clear BK113; clear HB; have BK113 := n0_; have HB := n1_; clear n0_ n1_; (try clear hb); (try clear hb2); (try clear hk); (try clear hi)) | (go_at_call 46; (with_reducible refine (head_named.calls k t118 false _ A12.out).mono ?_); rintro e w' ⟨rfl, ⟨nd, rfl⟩⟩; (try (rw [drewN_self w25]; generalize hq_ : World.drewN w25 _ = w25; have n0_ : Aside0 (w25.heap[gb113]? = some (.cells #[.string (⟨#[]⟩ : ByteArray), .string (⟨#[]⟩ : ByteArray), .string (⟨#[]⟩ : ByteArray)] 41 (0, 0))) := ⟨by rw [← hq_]; exact (bk BK113.out)⟩; have n1_ : Aside0 (Below w.heap.size w w25) := ⟨by rw [← hq_]; exact bl⟩; clear BK113 HB hq_; have BK113 := n0_; have HB := n1_; clear n0_ n1_)); have hcz26_0 : w25.cell? ⟨gb113, 0, none⟩ = some (.string (⟨#[]⟩ : ByteArray)) := (blk_cell BK113.out 0).trans rfl; have hcz26_1 : w25.cell? ⟨gb113, 1, none⟩ = some (.string (⟨#[]⟩ : ByteArray)) := (blk_cell BK113.out 1).trans rfl; have hcz26_2 : w25.cell? ⟨gb113, 2, none⟩ = some (.string (⟨#[]⟩ : ByteArray)) := (blk_cell BK113.out 2).trans rfl; have hfz26_0 := blk_frozen BK113.out 0; have hfz26_1 := blk_frozen BK113.out 1; have hfz26_2 := blk_frozen BK113.out 2))
      refine bodyPost_ret (results_ct rfl _ _ gb113 41 #[.string t118, .string t121, .string (t122 ++ (⟨#[13, 10]⟩ : ByteArray))] (0, 0) _ rfl (by (with_reducible repeat (first | refine blk_drewN ?_ _ | refine blk_drew ?_ | refine blk_alloc ?_ _)); refine blk_put (cs := #[.string t118, .string t121, .string (⟨#[]⟩ : ByteArray)]) ?_ 2 _ rfl; (with_reducible repeat (first | refine blk_drewN ?_ _ | refine blk_drew ?_ | refine blk_alloc ?_ _)); refine blk_put (cs := #[.string t118, .string (⟨#[]⟩ : ByteArray), .string (⟨#[]⟩ : ByteArray)]) ?_ 1 _ rfl; (with_reducible repeat (first | refine blk_drewN ?_ _ | refine blk_drew ?_ | refine blk_alloc ?_ _)); refine blk_put (cs := #[.string (⟨#[]⟩ : ByteArray), .string (⟨#[]⟩ : ByteArray), .string (⟨#[]⟩ : ByteArray)]) ?_ 0 _ rfl; (with_reducible repeat (first | refine blk_drewN ?_ _ | refine blk_drew ?_ | refine blk_alloc ?_ _)); exact BK113.out) Tryd.underlying41 rfl (by kernel_rfl)) rfl ?_
      exact ⟨by first | rfl | (simp [bneNil]; done) | (simp [errW_none, errW_some] <;> rfl) | (simp [*, errW_none, errW_some] <;> rfl), by repeat (first | (with_reducible first | exact HB.out | apply below_alloc | apply pw_below_drewN | apply below_drew1 | refine below_set ?_ GE113.out) | exact HB.out)⟩
    ·replace c11 := Bool.eq_false_iff.mpr c11
     subst c11
     have H1 : (some (t118, t121, t122 ++ (⟨#[13, 10]⟩ : ByteArray), false)) = some (r1, r2, r3, r4) := by rw [if_neg (show ¬ (false = true) by decide)] at H; exact H
     clear H
     have H := H1
     clear H1
     simp only [Option.some.injEq, Prod.mk.injEq] at H
     obtain ⟨rfl, rfl, rfl, rfl⟩ := H
     go_enter Tryd.func42, Tryd.ntmps42
     go_wp2_with (first | ((with_reducible refine gate_dst (N := 2) rfl ?_); refine box_event ?hg (N := 2) ?hd (cs := #[.string (⟨#[]⟩ : ByteArray), .string (⟨#[]⟩ : ByteArray), .string (⟨#[]⟩ : ByteArray)]) (t := 41) ?hr ?_; (case hd => rfl); (case hg => rfl); (case hr => first | (go_simp; done) | (go_simp; rfl)); intro gb113 hg w27 hbox hb; have n0_ := Aside0.mk (below_step bl hb); have n1_ := Aside0.mk (hbox); have n2_ := Aside0.mk ((by rw [hg]; exact (below_size bl) : w.heap.size ≤ gb113)); have n3_ := Aside0.mk ((by rw [hg]; exact (below_size bl) : w.heap.size ≤ gb113)); clear HB; have HB := n0_; have BK113 := n1_; have GW113 := n2_; have GE113 := n3_; clear n0_ n1_ n2_ n3_; clear hb hbox hg) | ((with_reducible refine gate_callee (f := 19) rfl ?_); refine goesL_ (some 11) rfl rfl Tryd.func19 (by kernel_rfl) rfl #[.slice A0 l0.length c0, .string (⟨#[]⟩ : ByteArray)] rfl ml ?_; (with_reducible refine (strings_Join.calls _ _ l0 (⟨#[]⟩ : ByteArray) t114 _ ?side1 ?side2 A2.out).mono ?_); (case side1 => repeat (first | exact (Kd.C_below HR0.out HB.out) | (with_reducible refine Kd.C_alloc ?_ _) | (with_reducible refine Kd.C_drewN ?_ _) | (with_reducible refine Kd.C_drew ?_))); (case side2 => exact HC0.out); rintro e w28 ⟨rfl, hb⟩; refine ⟨_, rfl, ?_⟩; have n0_ := Aside0.mk (kb BK113.out hb); have n1_ := Aside0.mk (below_step bl hb); clear BK113; clear HB; have BK113 := n0_; have HB := n1_; clear n0_ n1_; (try clear hb); (try clear hb2); (try clear hk); (try clear hi)) | ((with_reducible refine gate_callee (f := 80) rfl ?_); refine goesL_ (some 12) rfl rfl Tryd.func80 (by kernel_rfl) rfl #[.string t114, .string (⟨#[58]⟩ : ByteArray)] rfl ml ?_; (with_reducible refine (strings_Cut.calls t114 (⟨#[58]⟩ : ByteArray) t115 t116 true _ ?side1 A3.out).mono ?_); (case side1 => exact Glob.below HG.out bl); rintro e w' ⟨rfl, ⟨nd, rfl⟩⟩; refine ⟨_, rfl, ?_⟩; (try (rw [drewN_self w28]; generalize hq_ : World.drewN w28 _ = w28; have n0_ : Aside0 (w28.heap[gb113]? = some (.cells #[.string (⟨#[]⟩ : ByteArray), .string (⟨#[]⟩ : ByteArray), .string (⟨#[]⟩ : ByteArray)] 41 (0, 0))) := ⟨by rw [← hq_]; exact (bk BK113.out)⟩; have n1_ : Aside0 (Below w.heap.size w w28) := ⟨by rw [← hq_]; exact bl⟩; clear BK113 HB hq_; have BK113 := n0_; have HB := n1_; clear n0_ n1_))) | ((with_reducible refine gate_callee (f := 81) rfl ?_); refine goesL_ (some 17) rfl rfl Tryd.func81 (by kernel_rfl) rfl #[.string t115] rfl ml ?_; (with_reducible refine (text_Trim.calls t115 t118 _ A4.out).mono ?_); rintro e w29 ⟨rfl, hb⟩; refine ⟨_, rfl, ?_⟩; have n0_ := Aside0.mk (kb BK113.out hb); have n1_ := Aside0.mk (below_step bl hb); clear BK113; clear HB; have BK113 := n0_; have HB := n1_; clear n0_ n1_; (try clear hb); (try clear hb2); (try clear hk); (try clear hi); have p119 : 0 ≤ (0 : Int) := (by omega); have q119 : 0 < (l0.length : Int) := od; obtain ⟨ad119, e119, hx119_0⟩ := Kd.at_string HR0.out 0 p119 q119; cases e119; have qi119 : (0 < l0.length) = True := eq_true (by omega); (try rw [show ((0 : Int)).toNat = 0 from rfl] at hx119_0); (try rw [Addr.add_zero'] at hx119_0); replace hx119_0 := (HB.out.cell (World.block_lt_of_cell? w _ hx119_0)).trans hx119_0; replace p119 := eq_true p119; replace q119 := eq_true q119) | ((with_reducible refine gate_callee (f := 20) rfl ?_); refine goesL_ (some 21) rfl rfl Tryd.func20 (by kernel_rfl) rfl #[.string (rdOf ByteArray.empty l0 0), .string (⟨#[58]⟩ : ByteArray)] rfl ml ?_; (with_reducible refine (strings_Contains.calls (rdOf ByteArray.empty l0 0) (⟨#[58]⟩ : ByteArray) false _ ?side1 A6.out).mono ?_); (case side1 => exact Glob.below HG.out bl); rintro e w' ⟨rfl, ⟨nd, rfl⟩⟩; refine ⟨_, rfl, ?_⟩; (try (rw [drewN_self w29]; generalize hq_ : World.drewN w29 _ = w29; have n0_ : Aside0 (w29.heap[gb113]? = some (.cells #[.string (⟨#[]⟩ : ByteArray), .string (⟨#[]⟩ : ByteArray), .string (⟨#[]⟩ : ByteArray)] 41 (0, 0))) := ⟨by rw [← hq_]; exact (bk BK113.out)⟩; have n1_ : Aside0 (Below w.heap.size w w29) := ⟨by rw [← hq_]; exact bl⟩; clear BK113 HB hq_; have BK113 := n0_; have HB := n1_; clear n0_ n1_))) | ((with_reducible refine gate_callee (f := 81) rfl ?_); refine goesL_ (some 24) rfl rfl Tryd.func81 (by kernel_rfl) rfl #[.string t116] rfl ml ?_; (with_reducible refine (text_Trim.calls t116 t121 _ A7.out).mono ?_); rintro e w30 ⟨rfl, hb⟩; refine ⟨_, rfl, ?_⟩; have n0_ := Aside0.mk (kb BK113.out hb); have n1_ := Aside0.mk (below_step bl hb); clear BK113; clear HB; have BK113 := n0_; have HB := n1_; clear n0_ n1_; (try clear hb); (try clear hb2); (try clear hk); (try clear hi)) | ((with_reducible refine gate_callee (f := 19) rfl ?_); refine goesL_ (some 26) rfl rfl Tryd.func19 (by kernel_rfl) rfl #[.slice (some ad119) l0.length c0, .string (⟨#[13, 10]⟩ : ByteArray)] rfl ml ?_; (with_reducible refine (strings_Join.calls _ _ l0 (⟨#[13, 10]⟩ : ByteArray) t122 _ ?side1 ?side2 A8.out).mono ?_); (case side1 => repeat (first | exact (Kd.C_below HR0.out HB.out) | (with_reducible refine Kd.C_alloc ?_ _) | (with_reducible refine Kd.C_drewN ?_ _) | (with_reducible refine Kd.C_drew ?_))); (case side2 => exact HC0.out); rintro e w31 ⟨rfl, hb⟩; refine ⟨_, rfl, ?_⟩; have n0_ := Aside0.mk (kb BK113.out hb); have n1_ := Aside0.mk (below_step bl hb); clear BK113; clear HB; have BK113 := n0_; have HB := n1_; clear n0_ n1_; (try clear hb); (try clear hb2); (try clear hk); (try clear hi); have hcz32_0 : w31.cell? ⟨gb113, 0, none⟩ = some (.string (⟨#[]⟩ : ByteArray)) := (blk_cell BK113.out 0).trans rfl; have hcz32_1 : w31.cell? ⟨gb113, 1, none⟩ = some (.string (⟨#[]⟩ : ByteArray)) := (blk_cell BK113.out 1).trans rfl; have hcz32_2 : w31.cell? ⟨gb113, 2, none⟩ = some (.string (⟨#[]⟩ : ByteArray)) := (blk_cell BK113.out 2).trans rfl; have hfz32_0 := blk_frozen BK113.out 0; have hfz32_1 := blk_frozen BK113.out 1; have hfz32_2 := blk_frozen BK113.out 2))
     refine bodyPost_ret (results_ct rfl _ _ gb113 41 #[.string t118, .string t121, .string (t122 ++ (⟨#[13, 10]⟩ : ByteArray))] (0, 0) _ rfl (by (with_reducible repeat (first | refine blk_drewN ?_ _ | refine blk_drew ?_ | refine blk_alloc ?_ _)); refine blk_put (cs := #[.string t118, .string t121, .string (⟨#[]⟩ : ByteArray)]) ?_ 2 _ rfl; (with_reducible repeat (first | refine blk_drewN ?_ _ | refine blk_drew ?_ | refine blk_alloc ?_ _)); refine blk_put (cs := #[.string t118, .string (⟨#[]⟩ : ByteArray), .string (⟨#[]⟩ : ByteArray)]) ?_ 1 _ rfl; (with_reducible repeat (first | refine blk_drewN ?_ _ | refine blk_drew ?_ | refine blk_alloc ?_ _)); refine blk_put (cs := #[.string (⟨#[]⟩ : ByteArray), .string (⟨#[]⟩ : ByteArray), .string (⟨#[]⟩ : ByteArray)]) ?_ 0 _ rfl; (with_reducible repeat (first | refine blk_drewN ?_ _ | refine blk_drew ?_ | refine blk_alloc ?_ _)); exact BK113.out) Tryd.underlying41 rfl (by kernel_rfl)) rfl ?_
     exact ⟨by first | rfl | (simp [bneNil]; done) | (simp [errW_none, errW_some] <;> rfl) | (simp [*, errW_none, errW_some] <;> rfl), by repeat (first | (with_reducible first | exact HB.out | apply below_alloc | apply pw_below_drewN | apply below_drew1 | refine below_set ?_ GE113.out) | exact HB.out)⟩
   ·replace c10 := Bool.eq_false_iff.mpr c10
    subst c10
    have H1 : (some (t118, t121, t122 ++ (⟨#[13, 10]⟩ : ByteArray), false)) = some (r1, r2, r3, r4) := by rw [if_neg (show ¬ (false = true) by decide)] at H; exact H
    clear H
    have H := H1
    clear H1
    simp only [Option.some.injEq, Prod.mk.injEq] at H
    obtain ⟨rfl, rfl, rfl, rfl⟩ := H
    go_enter Tryd.func42, Tryd.ntmps42
    go_wp2_with (first | ((with_reducible refine gate_dst (N := 2) rfl ?_); refine box_event ?hg (N := 2) ?hd (cs := #[.string (⟨#[]⟩ : ByteArray), .string (⟨#[]⟩ : ByteArray), .string (⟨#[]⟩ : ByteArray)]) (t := 41) ?hr ?_; (case hd => rfl); (case hg => rfl); (case hr => first | (go_simp; done) | (go_simp; rfl)); intro gb113 hg w33 hbox hb; have n0_ := Aside0.mk (below_step bl hb); have n1_ := Aside0.mk (hbox); have n2_ := Aside0.mk ((by rw [hg]; exact (below_size bl) : w.heap.size ≤ gb113)); have n3_ := Aside0.mk ((by rw [hg]; exact (below_size bl) : w.heap.size ≤ gb113)); clear HB; have HB := n0_; have BK113 := n1_; have GW113 := n2_; have GE113 := n3_; clear n0_ n1_ n2_ n3_; clear hb hbox hg) | ((with_reducible refine gate_callee (f := 19) rfl ?_); refine goesL_ (some 11) rfl rfl Tryd.func19 (by kernel_rfl) rfl #[.slice A0 l0.length c0, .string (⟨#[]⟩ : ByteArray)] rfl ml ?_; (with_reducible refine (strings_Join.calls _ _ l0 (⟨#[]⟩ : ByteArray) t114 _ ?side1 ?side2 A2.out).mono ?_); (case side1 => repeat (first | exact (Kd.C_below HR0.out HB.out) | (with_reducible refine Kd.C_alloc ?_ _) | (with_reducible refine Kd.C_drewN ?_ _) | (with_reducible refine Kd.C_drew ?_))); (case side2 => exact HC0.out); rintro e w34 ⟨rfl, hb⟩; refine ⟨_, rfl, ?_⟩; have n0_ := Aside0.mk (kb BK113.out hb); have n1_ := Aside0.mk (below_step bl hb); clear BK113; clear HB; have BK113 := n0_; have HB := n1_; clear n0_ n1_; (try clear hb); (try clear hb2); (try clear hk); (try clear hi)) | ((with_reducible refine gate_callee (f := 80) rfl ?_); refine goesL_ (some 12) rfl rfl Tryd.func80 (by kernel_rfl) rfl #[.string t114, .string (⟨#[58]⟩ : ByteArray)] rfl ml ?_; (with_reducible refine (strings_Cut.calls t114 (⟨#[58]⟩ : ByteArray) t115 t116 false _ ?side1 A3.out).mono ?_); (case side1 => exact Glob.below HG.out bl); rintro e w' ⟨rfl, ⟨nd, rfl⟩⟩; refine ⟨_, rfl, ?_⟩; (try (rw [drewN_self w34]; generalize hq_ : World.drewN w34 _ = w34; have n0_ : Aside0 (w34.heap[gb113]? = some (.cells #[.string (⟨#[]⟩ : ByteArray), .string (⟨#[]⟩ : ByteArray), .string (⟨#[]⟩ : ByteArray)] 41 (0, 0))) := ⟨by rw [← hq_]; exact (bk BK113.out)⟩; have n1_ : Aside0 (Below w.heap.size w w34) := ⟨by rw [← hq_]; exact bl⟩; clear BK113 HB hq_; have BK113 := n0_; have HB := n1_; clear n0_ n1_))) | ((with_reducible refine gate_callee (f := 81) rfl ?_); refine goesL_ (some 17) rfl rfl Tryd.func81 (by kernel_rfl) rfl #[.string t115] rfl ml ?_; (with_reducible refine (text_Trim.calls t115 t118 _ A4.out).mono ?_); rintro e w35 ⟨rfl, hb⟩; refine ⟨_, rfl, ?_⟩; have n0_ := Aside0.mk (kb BK113.out hb); have n1_ := Aside0.mk (below_step bl hb); clear BK113; clear HB; have BK113 := n0_; have HB := n1_; clear n0_ n1_; (try clear hb); (try clear hb2); (try clear hk); (try clear hi); have p119 : 0 ≤ (0 : Int) := (by omega); have q119 : 0 < (l0.length : Int) := od; obtain ⟨ad119, e119, hx119_0⟩ := Kd.at_string HR0.out 0 p119 q119; cases e119; have qi119 : (0 < l0.length) = True := eq_true (by omega); (try rw [show ((0 : Int)).toNat = 0 from rfl] at hx119_0); (try rw [Addr.add_zero'] at hx119_0); replace hx119_0 := (HB.out.cell (World.block_lt_of_cell? w _ hx119_0)).trans hx119_0; replace p119 := eq_true p119; replace q119 := eq_true q119) | ((with_reducible refine gate_callee (f := 20) rfl ?_); refine goesL_ (some 21) rfl rfl Tryd.func20 (by kernel_rfl) rfl #[.string (rdOf ByteArray.empty l0 0), .string (⟨#[58]⟩ : ByteArray)] rfl ml ?_; (with_reducible refine (strings_Contains.calls (rdOf ByteArray.empty l0 0) (⟨#[58]⟩ : ByteArray) t120 _ ?side1 A6.out).mono ?_); (case side1 => exact Glob.below HG.out bl); rintro e w' ⟨rfl, ⟨nd, rfl⟩⟩; refine ⟨_, rfl, ?_⟩; (try (rw [drewN_self w35]; generalize hq_ : World.drewN w35 _ = w35; have n0_ : Aside0 (w35.heap[gb113]? = some (.cells #[.string (⟨#[]⟩ : ByteArray), .string (⟨#[]⟩ : ByteArray), .string (⟨#[]⟩ : ByteArray)] 41 (0, 0))) := ⟨by rw [← hq_]; exact (bk BK113.out)⟩; have n1_ : Aside0 (Below w.heap.size w w35) := ⟨by rw [← hq_]; exact bl⟩; clear BK113 HB hq_; have BK113 := n0_; have HB := n1_; clear n0_ n1_))) | ((with_reducible refine gate_callee (f := 81) rfl ?_); refine goesL_ (some 24) rfl rfl Tryd.func81 (by kernel_rfl) rfl #[.string t116] rfl ml ?_; (with_reducible refine (text_Trim.calls t116 t121 _ A7.out).mono ?_); rintro e w36 ⟨rfl, hb⟩; refine ⟨_, rfl, ?_⟩; have n0_ := Aside0.mk (kb BK113.out hb); have n1_ := Aside0.mk (below_step bl hb); clear BK113; clear HB; have BK113 := n0_; have HB := n1_; clear n0_ n1_; (try clear hb); (try clear hb2); (try clear hk); (try clear hi)) | ((with_reducible refine gate_callee (f := 19) rfl ?_); refine goesL_ (some 26) rfl rfl Tryd.func19 (by kernel_rfl) rfl #[.slice (some ad119) l0.length c0, .string (⟨#[13, 10]⟩ : ByteArray)] rfl ml ?_; (with_reducible refine (strings_Join.calls _ _ l0 (⟨#[13, 10]⟩ : ByteArray) t122 _ ?side1 ?side2 A8.out).mono ?_); (case side1 => repeat (first | exact (Kd.C_below HR0.out HB.out) | (with_reducible refine Kd.C_alloc ?_ _) | (with_reducible refine Kd.C_drewN ?_ _) | (with_reducible refine Kd.C_drew ?_))); (case side2 => exact HC0.out); rintro e w37 ⟨rfl, hb⟩; refine ⟨_, rfl, ?_⟩; have n0_ := Aside0.mk (kb BK113.out hb); have n1_ := Aside0.mk (below_step bl hb); clear BK113; clear HB; have BK113 := n0_; have HB := n1_; clear n0_ n1_; (try clear hb); (try clear hb2); (try clear hk); (try clear hi); have hcz38_0 : w37.cell? ⟨gb113, 0, none⟩ = some (.string (⟨#[]⟩ : ByteArray)) := (blk_cell BK113.out 0).trans rfl; have hcz38_1 : w37.cell? ⟨gb113, 1, none⟩ = some (.string (⟨#[]⟩ : ByteArray)) := (blk_cell BK113.out 1).trans rfl; have hcz38_2 : w37.cell? ⟨gb113, 2, none⟩ = some (.string (⟨#[]⟩ : ByteArray)) := (blk_cell BK113.out 2).trans rfl; have hfz38_0 := blk_frozen BK113.out 0; have hfz38_1 := blk_frozen BK113.out 1; have hfz38_2 := blk_frozen BK113.out 2))
    refine bodyPost_ret (results_ct rfl _ _ gb113 41 #[.string t118, .string t121, .string (t122 ++ (⟨#[13, 10]⟩ : ByteArray))] (0, 0) _ rfl (by (with_reducible repeat (first | refine blk_drewN ?_ _ | refine blk_drew ?_ | refine blk_alloc ?_ _)); refine blk_put (cs := #[.string t118, .string t121, .string (⟨#[]⟩ : ByteArray)]) ?_ 2 _ rfl; (with_reducible repeat (first | refine blk_drewN ?_ _ | refine blk_drew ?_ | refine blk_alloc ?_ _)); refine blk_put (cs := #[.string t118, .string (⟨#[]⟩ : ByteArray), .string (⟨#[]⟩ : ByteArray)]) ?_ 1 _ rfl; (with_reducible repeat (first | refine blk_drewN ?_ _ | refine blk_drew ?_ | refine blk_alloc ?_ _)); refine blk_put (cs := #[.string (⟨#[]⟩ : ByteArray), .string (⟨#[]⟩ : ByteArray), .string (⟨#[]⟩ : ByteArray)]) ?_ 0 _ rfl; (with_reducible repeat (first | refine blk_drewN ?_ _ | refine blk_drew ?_ | refine blk_alloc ?_ _)); exact BK113.out) Tryd.underlying41 rfl (by kernel_rfl)) rfl ?_
    exact ⟨by first | rfl | (simp [bneNil]; done) | (simp [errW_none, errW_some] <;> rfl) | (simp [*, errW_none, errW_some] <;> rfl), by repeat (first | (with_reducible first | exact HB.out | apply below_alloc | apply pw_below_drewN | apply below_drew1 | refine below_set ?_ GE113.out) | exact HB.out)⟩
  ·rw [if_neg c9] at H
   exact absurd H (by simp)
 ·rw [if_neg c5] at H
  exact absurd H (by simp)

end Go.Proofs.YtdciiahlakgikaaDoor.Q
end
section
namespace Go.Proofs.YtdciiahlakgikaaDoor.Q
open Go.RowKit Go.Proofs.YtdciiahlakgikaaDoorW.PrintWords Go.Proofs.YtdciiahlakgikaaDoorW.PrintLast Go.Proofs.YtdciiahlakgikaaDoorW.PrintMore
attribute [local go_sem] max2_int min2_int max_two min_two max_three min_three max_four min_four   -- for this text's walks alone
set_option linter.unusedVariables false
set_option linter.unusedSimpArgs false

/-! ### head_Parse: function 9 -/
mutual
def head_Parse.j1 : Nat → List ByteArray → Bool → ByteArray → Bool → Option ((List (S41)) × ByteArray × Bool × Int)
 | 0, _, _, _, _ => none
 | k + 1, x4, x5, x132001, x132002 => head_Parse.l1 k x4 x5 ([] : List (S41)) x132001 x132002
def head_Parse.l1 : Nat → List ByteArray → Bool → List (S41) → ByteArray → Bool → Option ((List (S41)) × ByteArray × Bool × Int)
 | 0, _, _, _, _, _ => none
 | k + 1, x4, x5, x132000, x132001, x132002 => if x5 = true then (head_Parse.j3 k x4 x5 (decide ((x4.length : Int) > 0)) x132000 x132001 x132002) else (head_Parse.j3 k x4 x5 false x132000 x132001 x132002)
def head_Parse.j3 : Nat → List ByteArray → Bool → Bool → List (S41) → ByteArray → Bool → Option ((List (S41)) × ByteArray × Bool × Int)
 | 0, _, _, _, _, _, _ => none
 | k + 1, x4, x5, x53, x132000, x132001, x132002 => if x53 = true then (head_Parse.l2 k x4 1 x132000 x132001 x132002) else (if x5 = true then (some (x132000, x132001, x132002, 0)) else (some (([] : List (S41)), (⟨#[]⟩ : ByteArray), false, 5)))
def head_Parse.l2 : Nat → List ByteArray → Int → List (S41) → ByteArray → Bool → Option ((List (S41)) × ByteArray × Bool × Int)
 | 0, _, _, _, _, _ => none
 | k + 1, x4, x10, x132000, x132001, x132002 => if x10 < (x4.length : Int) then (if 0 ≤ x10 then ((head_white.f (rdOf ByteArray.empty x4 x10)).bind fun t142 => (if t142 = true then (head_Parse.l2 k x4 (wrap64 (x10 + 1)) x132000 x132001 x132002) else (if x10 ≤ (x4.length : Int) then ((head_field.f k (x4.take (x10 : Int).toNat)).bind fun bt148 => (if bt148.2.2.2 = true then (if x132000.length < 2932031007402 then (head_Parse.l1 k (x4.drop (x10 : Int).toNat) bt148.2.2.2 (x132000 ++ [(⟨bt148.1, bt148.2.1, bt148.2.2.1⟩ : S41)]) x132001 x132002) else (none)) else (head_Parse.l1 k (x4.drop (x10 : Int).toNat) bt148.2.2.2 x132000 x132001 x132002))) else (none)))) else (none)) else (if 0 ≤ x10 then (if x10 ≤ (x4.length : Int) then ((head_field.f k (x4.take (x10 : Int).toNat)).bind fun bt166 => (if bt166.2.2.2 = true then (if x132000.length < 2932031007402 then (head_Parse.l1 k (x4.drop (x10 : Int).toNat) bt166.2.2.2 (x132000 ++ [(⟨bt166.1, bt166.2.1, bt166.2.2.1⟩ : S41)]) x132001 x132002) else (none)) else (head_Parse.l1 k (x4.drop (x10 : Int).toNat) bt166.2.2.2 x132000 x132001 x132002))) else (none)) else (none))
def head_Parse.l0 : Nat → List ByteArray → Bool → Int → List ByteArray → Int → Int → ByteArray → Bool → Option ((List (S41)) × ByteArray × Bool × Int)
 | 0, _, _, _, _, _, _, _, _ => none
 | k + 1, x4, x5, x6, x32, x33, x34, x132001, x132002 => if x34 < x33 then (if 0 ≤ x34 then (if x34 < (x32.length : Int) then (if (rdOf ByteArray.empty x32 x34).size + 2 ≤ 9223372036854775807 then (if x132001.size + ((rdOf ByteArray.empty x32 x34) ++ (⟨#[13, 10]⟩ : ByteArray)).size ≤ 9223372036854775807 then (head_Parse.l0 k x4 x5 x6 x32 x33 (wrap64 (x34 + 1)) (x132001 ++ ((rdOf ByteArray.empty x32 x34) ++ (⟨#[13, 10]⟩ : ByteArray))) x132002) else (none)) else (none)) else (none)) else (none)) else (if 0 ≤ x6 then (if x6 ≤ (x4.length : Int) then (head_Parse.j1 k (x4.take (x6 : Int).toNat) x5 x132001 x132002) else (none)) else (none))
end
def head_Parse.f (k : Nat) (a0 : ByteArray) : Option ((List (S41)) × ByteArray × Bool × Int) := if (a0.size : Int) > 8192 then (some (([] : List (S41)), (⟨#[]⟩ : ByteArray), false, 3)) else ((head_lines.f k a0).bind fun bt126 => ((slices_Index_string_string.f bt126.1 (⟨#[]⟩ : ByteArray)).bind fun t130 => (if t130 < 0 then (head_Parse.j1 k bt126.1 bt126.2 (⟨#[]⟩ : ByteArray) (decide (t130 < 0))) else (if 0 ≤ (wrap64 (t130 + 1)) then (if (wrap64 (t130 + 1)) ≤ (bt126.1.length : Int) then ((some (bt126.1.drop ((wrap64 (t130 + 1)) : Int).toNat : List ByteArray)).bind fun y132 => (head_Parse.l0 k bt126.1 bt126.2 t130 y132 (y132.length : Int) 0 (⟨#[]⟩ : ByteArray) (decide (t130 < 0)))) else (none)) else (none)))))
theorem head_Parse.mono_l : ∀ k, (∀ y0 y1 y2 y3, LeO (head_Parse.j1 k y0 y1 y2 y3) (head_Parse.j1 (k + 1) y0 y1 y2 y3)) ∧ (∀ y0 y1 y2 y3 y4, LeO (head_Parse.l1 k y0 y1 y2 y3 y4) (head_Parse.l1 (k + 1) y0 y1 y2 y3 y4)) ∧ (∀ y0 y1 y2 y3 y4 y5, LeO (head_Parse.j3 k y0 y1 y2 y3 y4 y5) (head_Parse.j3 (k + 1) y0 y1 y2 y3 y4 y5)) ∧ (∀ y0 y1 y2 y3 y4, LeO (head_Parse.l2 k y0 y1 y2 y3 y4) (head_Parse.l2 (k + 1) y0 y1 y2 y3 y4)) ∧ (∀ y0 y1 y2 y3 y4 y5 y6 y7, LeO (head_Parse.l0 k y0 y1 y2 y3 y4 y5 y6 y7) (head_Parse.l0 (k + 1) y0 y1 y2 y3 y4 y5 y6 y7))
 | 0 => ⟨fun _ _ _ _ r h => by simp [head_Parse.j1] at h, fun _ _ _ _ _ r h => by simp [head_Parse.l1] at h, fun _ _ _ _ _ _ r h => by simp [head_Parse.j3] at h, fun _ _ _ _ _ r h => by simp [head_Parse.l2] at h, fun _ _ _ _ _ _ _ _ r h => by simp [head_Parse.l0] at h⟩
 | k + 1 => by
  obtain ⟨ih0, ih1, ih2, ih3, ih4⟩ := head_Parse.mono_l k
  refine ⟨?_, ?_, ?_, ?_, ?_⟩
  ·intro y0 y1 y2 y3
   unfold head_Parse.j1
   repeat' first
   | (with_reducible exact ih0 _ _ _ _)
   | (with_reducible exact ih1 _ _ _ _ _)
   | (with_reducible exact ih2 _ _ _ _ _ _)
   | (with_reducible exact ih3 _ _ _ _ _)
   | (with_reducible exact ih4 _ _ _ _ _ _ _ _)
   | (with_reducible exact head_field.mono _ _)
   | (with_reducible exact head_lines.mono _ _)
   | (with_reducible exact LeO.refl _)
   | (with_reducible exact LeO.none _)
   | (with_reducible refine LeO.ite ?_ ?_)
   | (with_reducible refine LeO.bind ?_ (fun _ => ?_))
   | exact ih0 _ _ _ _
   | exact ih1 _ _ _ _ _
   | exact ih2 _ _ _ _ _ _
   | exact ih3 _ _ _ _ _
   | exact ih4 _ _ _ _ _ _ _ _
   | exact head_field.mono _ _
   | exact head_lines.mono _ _
   | exact LeO.none _
   | refine LeO.ite ?_ ?_
   | refine LeO.bind ?_ (fun _ => ?_)
  ·intro y0 y1 y2 y3 y4
   unfold head_Parse.l1
   repeat' first
   | (with_reducible exact ih0 _ _ _ _)
   | (with_reducible exact ih1 _ _ _ _ _)
   | (with_reducible exact ih2 _ _ _ _ _ _)
   | (with_reducible exact ih3 _ _ _ _ _)
   | (with_reducible exact ih4 _ _ _ _ _ _ _ _)
   | (with_reducible exact head_field.mono _ _)
   | (with_reducible exact head_lines.mono _ _)
   | (with_reducible exact LeO.refl _)
   | (with_reducible exact LeO.none _)
   | (with_reducible refine LeO.ite ?_ ?_)
   | (with_reducible refine LeO.bind ?_ (fun _ => ?_))
   | exact ih0 _ _ _ _
   | exact ih1 _ _ _ _ _
   | exact ih2 _ _ _ _ _ _
   | exact ih3 _ _ _ _ _
   | exact ih4 _ _ _ _ _ _ _ _
   | exact head_field.mono _ _
   | exact head_lines.mono _ _
   | exact LeO.none _
   | refine LeO.ite ?_ ?_
   | refine LeO.bind ?_ (fun _ => ?_)
  ·intro y0 y1 y2 y3 y4 y5
   unfold head_Parse.j3
   repeat' first
   | (with_reducible exact ih0 _ _ _ _)
   | (with_reducible exact ih1 _ _ _ _ _)
   | (with_reducible exact ih2 _ _ _ _ _ _)
   | (with_reducible exact ih3 _ _ _ _ _)
   | (with_reducible exact ih4 _ _ _ _ _ _ _ _)
   | (with_reducible exact head_field.mono _ _)
   | (with_reducible exact head_lines.mono _ _)
   | (with_reducible exact LeO.refl _)
   | (with_reducible exact LeO.none _)
   | (with_reducible refine LeO.ite ?_ ?_)
   | (with_reducible refine LeO.bind ?_ (fun _ => ?_))
   | exact ih0 _ _ _ _
   | exact ih1 _ _ _ _ _
   | exact ih2 _ _ _ _ _ _
   | exact ih3 _ _ _ _ _
   | exact ih4 _ _ _ _ _ _ _ _
   | exact head_field.mono _ _
   | exact head_lines.mono _ _
   | exact LeO.none _
   | refine LeO.ite ?_ ?_
   | refine LeO.bind ?_ (fun _ => ?_)
  ·intro y0 y1 y2 y3 y4
   unfold head_Parse.l2
   repeat' first
   | (with_reducible exact ih0 _ _ _ _)
   | (with_reducible exact ih1 _ _ _ _ _)
   | (with_reducible exact ih2 _ _ _ _ _ _)
   | (with_reducible exact ih3 _ _ _ _ _)
   | (with_reducible exact ih4 _ _ _ _ _ _ _ _)
   | (with_reducible exact head_field.mono _ _)
   | (with_reducible exact head_lines.mono _ _)
   | (with_reducible exact LeO.refl _)
   | (with_reducible exact LeO.none _)
   | (with_reducible refine LeO.ite ?_ ?_)
   | (with_reducible refine LeO.bind ?_ (fun _ => ?_))
   | exact ih0 _ _ _ _
   | exact ih1 _ _ _ _ _
   | exact ih2 _ _ _ _ _ _
   | exact ih3 _ _ _ _ _
   | exact ih4 _ _ _ _ _ _ _ _
   | exact head_field.mono _ _
   | exact head_lines.mono _ _
   | exact LeO.none _
   | refine LeO.ite ?_ ?_
   | refine LeO.bind ?_ (fun _ => ?_)
  ·intro y0 y1 y2 y3 y4 y5 y6 y7
   unfold head_Parse.l0
   repeat' first
   | (with_reducible exact ih0 _ _ _ _)
   | (with_reducible exact ih1 _ _ _ _ _)
   | (with_reducible exact ih2 _ _ _ _ _ _)
   | (with_reducible exact ih3 _ _ _ _ _)
   | (with_reducible exact ih4 _ _ _ _ _ _ _ _)
   | (with_reducible exact head_field.mono _ _)
   | (with_reducible exact head_lines.mono _ _)
   | (with_reducible exact LeO.refl _)
   | (with_reducible exact LeO.none _)
   | (with_reducible refine LeO.ite ?_ ?_)
   | (with_reducible refine LeO.bind ?_ (fun _ => ?_))
   | exact ih0 _ _ _ _
   | exact ih1 _ _ _ _ _
   | exact ih2 _ _ _ _ _ _
   | exact ih3 _ _ _ _ _
   | exact ih4 _ _ _ _ _ _ _ _
   | exact head_field.mono _ _
   | exact head_lines.mono _ _
   | exact LeO.none _
   | refine LeO.ite ?_ ?_
   | refine LeO.bind ?_ (fun _ => ?_)
theorem head_Parse.mono : ∀ a0 k, LeO (head_Parse.f k a0) (head_Parse.f (k + 1) a0) := by
 intro a0 k
 obtain ⟨ih0, ih1, ih2, ih3, ih4⟩ := head_Parse.mono_l k
 unfold head_Parse.f
 repeat' first
   | (with_reducible exact ih0 _ _ _ _)
   | (with_reducible exact ih1 _ _ _ _ _)
   | (with_reducible exact ih2 _ _ _ _ _ _)
   | (with_reducible exact ih3 _ _ _ _ _)
   | (with_reducible exact ih4 _ _ _ _ _ _ _ _)
   | (with_reducible exact head_field.mono _ _)
   | (with_reducible exact head_lines.mono _ _)
   | (with_reducible exact LeO.refl _)
   | (with_reducible exact LeO.none _)
   | (with_reducible refine LeO.ite ?_ ?_)
   | (with_reducible refine LeO.bind ?_ (fun _ => ?_))
   | exact ih0 _ _ _ _
   | exact ih1 _ _ _ _ _
   | exact ih2 _ _ _ _ _ _
   | exact ih3 _ _ _ _ _
   | exact ih4 _ _ _ _ _ _ _ _
   | exact head_field.mono _ _
   | exact head_lines.mono _ _
   | exact LeO.none _
   | refine LeO.ite ?_ ?_
   | refine LeO.bind ?_ (fun _ => ?_)
set_option maxHeartbeats 8000000 in
set_option maxRecDepth 100000 in
theorem head_Parse.calls (k : Nat) (a0 : ByteArray) (r1 : List (S41)) (r2 : ByteArray) (r3 : Bool) (r4 : Int) (w : World) (hG : Glob w) (h : head_Parse.f k a0 = some (r1, r2, r3, r4)) :
  Calls Tryd.prog 9 #[.string a0] w fun e w' => ∃ v0_ : Value, e = .returned (.tuple #[.agg #[v0_, .string r2, .bool r3], .int .i64 r4]) ∧ Kd.R k41 41 w' w.heap.size (fun _ => True) v0_ r1 ∧ Below w.heap.size w w' := by
 have hu24 := Tryd.underlying24
 have hu41 := Tryd.underlying41
 have HB := Aside0.mk (Below.refl w.heap.size w)
 have HG := Aside0.mk hG
 clear hG
 have H : (if (a0.size : Int) > 8192 then (some (([] : List (S41)), (⟨#[]⟩ : ByteArray), false, 3)) else ((head_lines.f k a0).bind fun bt126 => ((slices_Index_string_string.f bt126.1 (⟨#[]⟩ : ByteArray)).bind fun t130 => (if t130 < 0 then (head_Parse.j1 k bt126.1 bt126.2 (⟨#[]⟩ : ByteArray) (decide (t130 < 0))) else (if 0 ≤ (wrap64 (t130 + 1)) then (if (wrap64 (t130 + 1)) ≤ (bt126.1.length : Int) then ((some (bt126.1.drop ((wrap64 (t130 + 1)) : Int).toNat : List ByteArray)).bind fun y132 => (head_Parse.l0 k bt126.1 bt126.2 t130 y132 (y132.length : Int) 0 (⟨#[]⟩ : ByteArray) (decide (t130 < 0)))) else (none)) else (none)))))) = some (r1, r2, r3, r4) := h
 clear h
 by_cases c2 : (a0.size : Int) > 8192
 ·rw [if_pos c2] at H
  have c2b0 : decide (8192 < (a0.size : Int)) = true := decide_eq_true c2
  have c2b1 : decide (8192 < a0.size) = true := decide_eq_true (by omega)
  clear c2
  simp only [Option.some.injEq, Prod.mk.injEq] at H
  obtain ⟨rfl, rfl, rfl, rfl⟩ := H
  go_enter Tryd.func9, Tryd.ntmps9
  go_wp2_with (first | ((with_reducible refine gate_dst (N := 2) rfl ?_); (try (refine gate_guard (by rfl) ?_; dsimp only)); refine box_event ?hg (N := 2) ?hd (cs := #[.slice none 0 0, .string (⟨#[]⟩ : ByteArray), .bool false]) (t := 24) ?hr ?_; (case hd => rfl); (case hg => rfl); (case hr => first | (go_simp; done) | (go_simp; rfl)); intro gb125 hg w3 hbox hb; have n0_ := Aside0.mk (below_step bl hb); have n1_ := Aside0.mk (hbox); have n2_ := Aside0.mk ((by rw [hg]; exact (below_size bl) : w.heap.size ≤ gb125)); have n3_ := Aside0.mk ((by rw [hg]; exact (below_size bl) : w.heap.size ≤ gb125)); clear HB; have HB := n0_; have BK125 := n1_; have GW125 := n2_; have GE125 := n3_; clear n0_ n1_ n2_ n3_; clear hb hbox hg; have hcz4_0 : w3.cell? ⟨gb125, 0, none⟩ = some (.slice none 0 0) := (blk_cell BK125.out 0).trans rfl; have hcz4_1 : w3.cell? ⟨gb125, 1, none⟩ = some (.string (⟨#[]⟩ : ByteArray)) := (blk_cell BK125.out 1).trans rfl; have hcz4_2 : w3.cell? ⟨gb125, 2, none⟩ = some (.bool false) := (blk_cell BK125.out 2).trans rfl; have hfz4_0 := blk_frozen BK125.out 0; have hfz4_1 := blk_frozen BK125.out 1; have hfz4_2 := blk_frozen BK125.out 2) | ((with_reducible refine gate_store (t := 24) (p := 2) rfl ?_); refine store_event (t := 24) (p := 2) (v := ?vo_w5) (w1 := (((w3.setCell ⟨gb125, 0, none⟩ (.slice none 0 0)).setCell ⟨gb125, 1, none⟩ (.string (⟨#[]⟩ : ByteArray))).setCell ⟨gb125, 2, none⟩ (.bool false))) ?hg ?ho ?hn ?hr ?_; (case ho => rfl); (case hg => rfl); (case hn => rfl); (case hr => first | (go_simp; done) | (go_simp; rfl)); intro w5 hw; have n0_ : Aside0 (w5.heap[gb125]? = some (.cells #[.slice none 0 0, .string (⟨#[]⟩ : ByteArray), .bool false] 24 (0, 0))) := ⟨(by rw [hw]; exact (by (with_reducible repeat (first | refine blk_drewN ?_ _ | refine blk_drew ?_ | refine blk_alloc ?_ _)); refine blk_put (cs := #[.slice none 0 0, .string (⟨#[]⟩ : ByteArray), .bool false]) ?_ 2 _ rfl; (with_reducible repeat (first | refine blk_drewN ?_ _ | refine blk_drew ?_ | refine blk_alloc ?_ _)); refine blk_put (cs := #[.slice none 0 0, .string (⟨#[]⟩ : ByteArray), .bool false]) ?_ 1 _ rfl; (with_reducible repeat (first | refine blk_drewN ?_ _ | refine blk_drew ?_ | refine blk_alloc ?_ _)); refine blk_put (cs := #[.slice none 0 0, .string (⟨#[]⟩ : ByteArray), .bool false]) ?_ 0 _ rfl; (with_reducible repeat (first | refine blk_drewN ?_ _ | refine blk_drew ?_ | refine blk_alloc ?_ _)); exact BK125.out))⟩; have n1_ : Aside0 (Below w.heap.size w w5) := ⟨(by rw [hw]; exact bl)⟩; clear hw; clear BK125; clear HB; have BK125 := n0_; have HB := n1_; clear n0_ n1_))
  refine bodyPost_ret (results_ct rfl _ _ gb125 24 #[.slice none 0 0, .string (⟨#[]⟩ : ByteArray), .bool false] (0, 0) _ rfl (bk BK125.out) Tryd.underlying24 rfl (by kernel_rfl)) rfl ?_
  exact ⟨_, by first | rfl | (simp [errW_none, errW_some] <;> rfl) | (simp [*, errW_none, errW_some] <;> rfl), by first | exact Kd.R_nil _ _ _ _ _ | exact Kd.N_nil _ _ _ _ _ | exact Kd.V_nil _ _ _ _ _ | exact Kd.Q_nil _ _ _ _ _ | exact Kd.S_nil _ _ _ _ _, by repeat (first | (with_reducible first | exact HB.out | apply below_alloc | apply pw_below_drewN | apply below_drew1 | refine below_set ?_ GE125.out) | exact HB.out)⟩
 ·rw [if_neg c2] at H
  have c2b0 : decide (8192 < (a0.size : Int)) = false := decide_eq_false c2
  have c2b1 : decide (8192 < a0.size) = false := decide_eq_false (by omega)
  clear c2
  replace H := Option.bind_eq_some_iff.mp H
  obtain ⟨⟨t126, t127⟩, A60, H⟩ := H
  replace H : ((slices_Index_string_string.f t126 (⟨#[]⟩ : ByteArray)).bind fun t130 => (if t130 < 0 then (head_Parse.j1 k t126 t127 (⟨#[]⟩ : ByteArray) (decide (t130 < 0))) else (if 0 ≤ (wrap64 (t130 + 1)) then (if (wrap64 (t130 + 1)) ≤ (t126.length : Int) then ((some (t126.drop ((wrap64 (t130 + 1)) : Int).toNat : List ByteArray)).bind fun y132 => (head_Parse.l0 k t126 t127 t130 y132 (y132.length : Int) 0 (⟨#[]⟩ : ByteArray) (decide (t130 < 0)))) else (none)) else (none)))) = some (r1, r2, r3, r4) := H
  have A6 := Aside0.mk A60
  clear A60
  replace H := Option.bind_eq_some_iff.mp H
  obtain ⟨t130, A70, H⟩ := H
  replace H : (if t130 < 0 then (head_Parse.j1 k t126 t127 (⟨#[]⟩ : ByteArray) (decide (t130 < 0))) else (if 0 ≤ (wrap64 (t130 + 1)) then (if (wrap64 (t130 + 1)) ≤ (t126.length : Int) then ((some (t126.drop ((wrap64 (t130 + 1)) : Int).toNat : List ByteArray)).bind fun y132 => (head_Parse.l0 k t126 t127 t130 y132 (y132.length : Int) 0 (⟨#[]⟩ : ByteArray) (decide (t130 < 0)))) else (none)) else (none))) = some (r1, r2, r3, r4) := H
  have A7 := Aside0.mk A70
  clear A70
  have HC8 := Aside0.mk H
  clear H
  go_enter Tryd.func9, Tryd.ntmps9
  go_upto_if 28 with (first | ((with_reducible refine gate_dst (N := 2) rfl ?_); (try (refine gate_guard (by rfl) ?_; dsimp only)); refine box_event ?hg (N := 2) ?hd (cs := #[.slice none 0 0, .string (⟨#[]⟩ : ByteArray), .bool false]) (t := 24) ?hr ?_; (case hd => rfl); (case hg => rfl); (case hr => first | (go_simp; done) | (go_simp; rfl)); intro gb125 hg w9 hbox hb; have n0_ := Aside0.mk (below_step bl hb); have n1_ := Aside0.mk (hbox); have n2_ := Aside0.mk ((by rw [hg]; exact (below_size bl) : w.heap.size ≤ gb125)); have n3_ := Aside0.mk ((by rw [hg]; exact (below_size bl) : w.heap.size ≤ gb125)); clear HB; have HB := n0_; have BK125 := n1_; have GW125 := n2_; have GE125 := n3_; clear n0_ n1_ n2_ n3_; clear hb hbox hg) | ((with_reducible refine gate_callee (f := 39) rfl ?_); refine goesL_ (some 18) rfl rfl Tryd.func39 (by kernel_rfl) rfl #[.string a0] rfl ml ?_; (with_reducible refine (head_lines.calls k a0 t126 t127 _ ?side1 A6.out).mono ?_); (case side1 => exact Glob.below HG.out bl); rintro e w10 ⟨v128, rfl, ho0, hb⟩; refine ⟨_, rfl, ?_⟩; have n0_ := Aside0.mk (Kd.R_lower ho0 (below_size bl)); have n1_ := Aside0.mk (kb BK125.out hb); have n2_ := Aside0.mk (below_step bl hb); clear BK125; clear HB; have HO129 := n0_; have BK125 := n1_; have HB := n2_; clear n0_ n1_ n2_; (try clear hb); (try clear hb2); (try clear hk); (try clear hi); (try clear ho0); obtain ⟨Ao11, co11, eo11⟩ := Kd.R_slice HO129.out; subst eo11) | ((with_reducible refine gate_callee (f := 40) rfl ?_); refine goesL_ (some 22) rfl rfl Tryd.func40 (by kernel_rfl) rfl #[.slice Ao11 t126.length co11, .string (⟨#[]⟩ : ByteArray)] rfl ml ?_; (with_reducible refine (slices_Index_string_string.calls _ _ t126 (⟨#[]⟩ : ByteArray) t130 _ ?side1 ?side2 A7.out).mono ?_); (case side1 => repeat (first | exact (Kd.R_reads' HO129.out).2.2 | (with_reducible refine Kd.C_alloc ?_ _) | (with_reducible refine Kd.C_drewN ?_ _) | (with_reducible refine Kd.C_drew ?_))); (case side2 => exact (Kd.R_reads' HO129.out).2.1); rintro e w' ⟨rfl, ⟨nd, rfl⟩⟩; refine ⟨_, rfl, ?_⟩; (try (rw [drewN_self w10]; generalize hq_ : World.drewN w10 _ = w10; have n0_ : Aside0 (Kd.R Kd.string 9 w10 w.heap.size (fun _ => True) (.slice Ao11 t126.length co11) t126) := ⟨by rw [← hq_]; exact (kr HO129.out)⟩; have n1_ : Aside0 (w10.heap[gb125]? = some (.cells #[.slice none 0 0, .string (⟨#[]⟩ : ByteArray), .bool false] 24 (0, 0))) := ⟨by rw [← hq_]; exact (bk BK125.out)⟩; have n2_ : Aside0 (Below w.heap.size w w10) := ⟨by rw [← hq_]; exact bl⟩; clear HO129 BK125 HB hq_; have HO129 := n0_; have BK125 := n1_; have HB := n2_; clear n0_ n1_ n2_))) | ((with_reducible refine gate_dst (N := 7) rfl ?_); (try (refine gate_guard (by rfl) ?_; dsimp only)); refine box_event ?hg (N := 7) ?hd (cs := #[.slice none 0 0, .string (⟨#[]⟩ : ByteArray), .bool false]) (t := 24) ?hr ?_; (case hd => rfl); (case hg => rfl); (case hr => first | (go_simp; done) | (go_simp; rfl)); intro gb131 hg w12 hbox hb; have n0_ := Aside0.mk (Kd.R_below (kr HO129.out) hb); have n1_ := Aside0.mk (kb BK125.out hb); have n2_ := Aside0.mk (below_step bl hb); have n3_ := Aside0.mk (hbox); have n4_ := Aside0.mk ((by rw [hg]; exact (below_size bl) : w.heap.size ≤ gb131)); have n5_ := Aside0.mk ((by rw [hg]; exact (below_size bl) : w.heap.size ≤ gb131)); have n6_ := Aside0.mk ((by rw [hg]; exact Nat.ne_of_lt (blk_lt (bk BK125.out)) : gb125 ≠ gb131)); have n7_ := Aside0.mk ((by rw [hg]; exact Nat.ne_of_gt (blk_lt (bk BK125.out)) : gb131 ≠ gb125)); clear HO129; clear BK125; clear HB; have HO129 := n0_; have BK125 := n1_; have HB := n2_; have BK131 := n3_; have GW131 := n4_; have GE131 := n5_; have NB125_131 := n6_; have NB131_125 := n7_; clear n0_ n1_ n2_ n3_ n4_ n5_ n6_ n7_; clear hb hbox hg; have hnb13 := NB131_125.out; have hnc13 := NB125_131.out; have hcz14_0 : w12.cell? ⟨gb131, 0, none⟩ = some (.slice none 0 0) := (blk_cell BK131.out 0).trans rfl; have hcz14_1 : w12.cell? ⟨gb131, 1, none⟩ = some (.string (⟨#[]⟩ : ByteArray)) := (blk_cell BK131.out 1).trans rfl; have hcz14_2 : w12.cell? ⟨gb131, 2, none⟩ = some (.bool false) := (blk_cell BK131.out 2).trans rfl; have hfz14_0 := blk_frozen BK131.out 0; have hfz14_1 := blk_frozen BK131.out 1; have hfz14_2 := blk_frozen BK131.out 2) | ((with_reducible refine gate_store (t := 24) (p := 7) rfl ?_); refine store_event (t := 24) (p := 7) (v := ?vo_w15) (w1 := (((w12.setCell ⟨gb131, 0, none⟩ (.slice none 0 0)).setCell ⟨gb131, 1, none⟩ (.string (⟨#[]⟩ : ByteArray))).setCell ⟨gb131, 2, none⟩ (.bool (decide (t130 < 0))))) ?hg ?ho ?hn ?hr ?_; (case ho => rfl); (case hg => rfl); (case hn => rfl); (case hr => first | (go_simp; done) | (go_simp; rfl)); intro w15 hw; have n0_ : Aside0 (Kd.R Kd.string 9 w15 w.heap.size (fun _ => True) (.slice Ao11 t126.length co11) t126) := ⟨(by rw [hw]; exact (by (with_reducible repeat (first | apply Kd.R_alloc | apply Kd.R_drewN | apply Kd.R_drew)); exact Kd.R_mono (Kd.R_far (p := ⟨gb131, 2, none⟩) (Kd.R_far (p := ⟨gb131, 1, none⟩) (Kd.R_far (p := ⟨gb131, 0, none⟩) (Kd.R_types HO129.out BK131.out (by decide)) (fun _ hk => hk.2) (.slice none 0 0)) (fun _ hk => hk.2) (.string (⟨#[]⟩ : ByteArray))) (fun _ hk => hk.2) (.bool (decide (t130 < 0)))) (fun _ hk => trivial)))⟩; have n1_ : Aside0 (w15.heap[gb125]? = some (.cells #[.slice none 0 0, .string (⟨#[]⟩ : ByteArray), .bool false] 24 (0, 0))) := ⟨(by rw [hw]; exact (bk BK125.out))⟩; have n2_ : Aside0 (w15.heap[gb131]? = some (.cells #[.slice none 0 0, .string (⟨#[]⟩ : ByteArray), .bool (decide (t130 < 0))] 24 (0, 0))) := ⟨(by rw [hw]; exact (by (with_reducible repeat (first | refine blk_drewN ?_ _ | refine blk_drew ?_ | refine blk_alloc ?_ _)); refine blk_put (cs := #[.slice none 0 0, .string (⟨#[]⟩ : ByteArray), .bool false]) ?_ 2 _ rfl; (with_reducible repeat (first | refine blk_drewN ?_ _ | refine blk_drew ?_ | refine blk_alloc ?_ _)); refine blk_put (cs := #[.slice none 0 0, .string (⟨#[]⟩ : ByteArray), .bool false]) ?_ 1 _ rfl; (with_reducible repeat (first | refine blk_drewN ?_ _ | refine blk_drew ?_ | refine blk_alloc ?_ _)); refine blk_put (cs := #[.slice none 0 0, .string (⟨#[]⟩ : ByteArray), .bool false]) ?_ 0 _ rfl; (with_reducible repeat (first | refine blk_drewN ?_ _ | refine blk_drew ?_ | refine blk_alloc ?_ _)); exact BK131.out))⟩; have n3_ : Aside0 (Below w.heap.size w w15) := ⟨(by rw [hw]; exact bl)⟩; clear hw; clear HO129; clear BK125; clear BK131; clear HB; have HO129 := n0_; have BK125 := n1_; have BK131 := n2_; have HB := n3_; clear n0_ n1_ n2_ n3_; have hcz16_0 : w15.cell? ⟨gb131, 0, none⟩ = some (.slice none 0 0) := (blk_cell BK131.out 0).trans rfl; have hcz16_1 : w15.cell? ⟨gb131, 1, none⟩ = some (.string (⟨#[]⟩ : ByteArray)) := (blk_cell BK131.out 1).trans rfl; have hcz16_2 : w15.cell? ⟨gb131, 2, none⟩ = some (.bool (decide (t130 < 0))) := (blk_cell BK131.out 2).trans rfl; have hfz16_0 := blk_frozen BK131.out 0; have hfz16_1 := blk_frozen BK131.out 1; have hfz16_2 := blk_frozen BK131.out 2))
  (try simp only [Act.put, List.setIfInBounds_toArray, List.set_cons_zero, List.set_cons_succ])
  go_cut [4] (fun v4 wc => ∃ (kq : Nat) (x4_7 : List ByteArray) (x132001_7 : ByteArray), Aside0 (head_Parse.j1 kq x4_7 t127 x132001_7 (decide (t130 < 0)) = some (r1, r2, r3, r4)) ∧ Aside0 (kq ≤ k) ∧ Aside0 (Kd.Q Kd.string 9 wc w.heap.size (fun _ => True) v4 x4_7) ∧ Aside0 (wc.heap[gb125]? = some (.cells #[(.slice none 0 0), .string (⟨#[]⟩ : ByteArray), .bool false] 24 (0, 0))) ∧ Aside0 (wc.heap[gb131]? = some (.cells #[(.slice none 0 0), .string x132001_7, .bool (decide (t130 < 0))] 24 (0, 0))) ∧ Aside0 (Below w.heap.size w wc))
  case first =>
   have H := HC8.out
   clear HC8
   by_cases c17 : t130 < 0
   ·rw [if_pos c17] at H
    have c17b0 : decide (t130 < 0) = true := decide_eq_true c17
    clear c17
    (first | rw [c17b0] | (simp only [i64_w, i32_w]; rw [c17b0]) | skip)
    have H' := Aside0.mk H
    clear H
    go_wp2
    go_meet
    case rel => exact ⟨_, (t126), ((⟨#[]⟩ : ByteArray)), H', ⟨by first | omega | exact Nat.le_refl _⟩, ⟨Kd.Q_of_R (kr HO129.out)⟩, ⟨by (with_reducible repeat (first | refine blk_drewN ?_ _ | refine blk_drew ?_ | refine blk_alloc ?_ _)); exact BK125.out⟩, ⟨by (with_reducible repeat (first | refine blk_drewN ?_ _ | refine blk_drew ?_ | refine blk_alloc ?_ _)); exact BK131.out⟩, ⟨by repeat (first | (with_reducible first | exact HB.out | apply below_alloc | apply pw_below_drewN | apply below_drew1 | refine below_set ?_ GE125.out | refine below_set ?_ GE131.out) | exact HB.out)⟩⟩
   ·rw [if_neg c17] at H
    have c17b0 : decide (t130 < 0) = false := decide_eq_false c17
    clear c17
    (first | rw [c17b0] | (simp only [i64_w, i32_w]; rw [c17b0]) | skip)
    obtain ⟨ji18, hji18⟩ : ∃ j_ : Int, (wrap64 (t130 + 1)) = j_ := ⟨_, rfl⟩
    replace H : (if 0 ≤ (ji18) then (if (ji18) ≤ (t126.length : Int) then ((some (t126.drop ((ji18) : Int).toNat : List ByteArray)).bind fun y132 => (head_Parse.l0 k t126 t127 t130 y132 (y132.length : Int) 0 (⟨#[]⟩ : ByteArray) (decide (t130 < 0)))) else (none)) else (none)) = some (r1, r2, r3, r4) := by first | (rw [hji18] at H; exact H) | (simp only [hji18] at H ⊢; exact H)
    have hji18w : (IntKind.i64.wrap (t130 + 1)) = ji18 := (i64_w _).trans hji18
    by_cases c19 : 0 ≤ (ji18)
    ·rw [if_pos c19] at H
     have c19b0 := eq_true c19
     have c19b1 : decide (0 ≤ (ji18)) = true := decide_eq_true c19
     clear c19
     by_cases c20 : (ji18) ≤ (t126.length : Int)
     ·rw [if_pos c20] at H
      have c20b0 := eq_true c20
      have c20b1 : decide ((ji18) ≤ (t126.length : Int)) = true := decide_eq_true c20
      clear c20
      obtain ⟨y132, hy132⟩ : ∃ y_ : List ByteArray, y_ = (t126.drop ((ji18) : Int).toNat) := ⟨_, rfl⟩
      replace H : (head_Parse.l0 k t126 t127 t130 y132 (y132.length : Int) 0 (⟨#[]⟩ : ByteArray) (decide (t130 < 0))) = some (r1, r2, r3, r4) := by first | (rw [hy132]; with_reducible exact H) | (have H2_ := (Option.bind_some _ _).symm.trans H; rw [hy132]; with_reducible exact H2_) | (have H2_ := (Option.bind_some _ _).symm.trans H; with_reducible exact H2_) | with_reducible exact H | (rw [hy132]; exact H) | exact H
      have Ny132 := Aside0.mk hy132
      clear hy132
      have H' := Aside0.mk H
      clear H
      have q21 : ((ji18) : Int) ≤ ((t126.length : Int) : Int) := od
      obtain ⟨i021, hi021, _, hsz21, _⟩ := info_parts info9
      have hroom21 : t126.length ≤ co11 := (Kd.R_reads' HO129.out).2.1
      have hC21 : Kd.F Kd.string _ _ Ao11 t126.length t126 := (Kd.V_at (base := w.heap.size) (Kd.R_V (Kd.R_types (Kd.R_types (HO129.out) BK125.out (by decide)) BK131.out (by decide)))).2.2
      have q021 : (0 : Int) ≤ ((ji18) : Int) := od
      have hcut21 := cut_from (P := Tryd.prog) 37 9 .i64 Tryd.underlying37 hi021 1 hsz21 Ao11 t126.length co11 (ji18) q021 q21
      have hr21 := Kd.F_cut (m := ((ji18) : Int).toNat) (c := co11) hC21 (by omega) hroom21
      obtain ⟨A21, hA21⟩ : ∃ A1, A1 = (if co11 = ((ji18) : Int).toNat then Ao11 else (Ao11 : Option Addr).map (·.add (((ji18) : Int).toNat * 1))) := ⟨_, rfl⟩
      obtain ⟨c21, hc21⟩ : ∃ c1, c1 = co11 - ((ji18) : Int).toNat := ⟨_, rfl⟩
      have hy21 : y132.length = t126.length - ((ji18) : Int).toNat := (by rw [Ny132.out, List.length_drop] <;> omega)
      rw [show (t126).drop ((ji18) : Int).toNat = y132 from Ny132.out.symm] at hr21
      replace hr21 : Kd.F Kd.string _ _ A21 y132.length y132 := (by rw [hA21]; exact hr21)
      rw [← hy21, ← hA21, ← hc21] at hcut21
      have HO136 := Aside0.mk (show Kd.V Kd.string 9 _ w.heap.size _ (.slice A21 y132.length c21) y132 from Kd.V_mk (by rw [hy21, hc21]; exact Nat.sub_le_sub_right hroom21 _) hr21)
      have HC136 := Aside0.mk (show y132.length ≤ c21 from by rw [hy21, hc21]; exact Nat.sub_le_sub_right hroom21 _)
      clear hr21 hC21 hroom21 hi021 hsz21 hc21
      have KY21 := Aside0.mk hy21
      have KA21 := Aside0.mk hA21
      clear hy21 hA21
      replace q21 := eq_true q21
      go_wp2
      go_loopg [34] k (fun kq v34 w' => ∃ (x34_1 : Int) (x132001_1 : ByteArray), v34 = .int .i64 x34_1 ∧ Aside0 (head_Parse.l0 kq t126 t127 t130 y132 (y132.length : Int) x34_1 x132001_1 (decide (t130 < 0)) = some (r1, r2, r3, r4)) ∧ Aside0 (kq ≤ k) ∧ Aside0 (Kd.Q Kd.string 9 w' w.heap.size (fun _ => True) (.slice Ao11 t126.length co11) t126) ∧ Aside0 (Kd.V Kd.string 9 w' w.heap.size (fun k_ => k_ ≠ gb125 ∧ k_ ≠ gb131) (.slice A21 y132.length c21) y132) ∧ Aside0 (w'.heap[gb125]? = some (.cells #[(.slice none 0 0), .string (⟨#[]⟩ : ByteArray), .bool false] 24 (0, 0))) ∧ Aside0 (w'.heap[gb131]? = some (.cells #[(.slice none 0 0), .string x132001_1, .bool (decide (t130 < 0))] 24 (0, 0))) ∧ Aside0 (Below w.heap.size w w'))
      case atStart => exact ⟨(0), ((⟨#[]⟩ : ByteArray)), (by first | rfl | (simp; done) | (simp [*]; done)), H', ⟨Nat.le_refl _⟩, ⟨Kd.Q_of_R (kr HO129.out)⟩, ⟨by (with_reducible repeat (first | apply Kd.V_alloc | apply Kd.V_drewN | apply Kd.V_drew)); exact Kd.V_mono HO136.out (fun _ hk => ⟨hk.1.2, hk.2⟩)⟩, ⟨by (with_reducible repeat (first | refine blk_drewN ?_ _ | refine blk_drew ?_ | refine blk_alloc ?_ _)); exact BK125.out⟩, ⟨by (with_reducible repeat (first | refine blk_drewN ?_ _ | refine blk_drew ?_ | refine blk_alloc ?_ _)); exact BK131.out⟩, ⟨by repeat (first | (with_reducible first | exact HB.out | apply below_alloc | apply pw_below_drewN | apply below_drew1 | refine below_set ?_ GE125.out | refine below_set ?_ GE131.out) | exact HB.out)⟩⟩
      case round =>
       clear H'
       try clear c1
       try clear c2
       try clear c2b0
       try clear c2b1
       try clear p2
       try clear q2
       try clear c3
       try clear c4
       try clear p6
       try clear c9
       try clear c13
       try clear c17
       try clear c17b0
       try clear c19
       try clear c19b0
       try clear c19b1
       try clear c20
       try clear c20b0
       try clear c20b1
       try clear c21
       try clear q21
       try clear hcz14_0
       try clear hcz14_1
       try clear hcz14_2
       try clear hcz16_0
       try clear hcz16_1
       try clear hcz16_2
       try clear hcz4_0
       try clear hcz4_1
       try clear hcz4_2
       try clear hfz14_0
       try clear hfz14_1
       try clear hfz14_2
       try clear hfz16_0
       try clear hfz16_1
       try clear hfz16_2
       try clear hfz4_0
       try clear hfz4_1
       try clear hfz4_2
       try clear q021
       try clear q21
       obtain ⟨x34_1, x132001_1, rfl, HA, HK1, HO_4, HO_32, BK125, BK131, HB⟩ := hrel
       cases gk with
       | zero => exact absurd HA.out (by simp [head_Parse.l0])
       | succ k1 =>
        have H := HA.out
        clear HA
        simp only [head_Parse.l0] at H
        by_cases c22 : x34_1 < (y132.length : Int)
        ·rw [if_pos c22] at H
         have c22b0 : decide (x34_1 < (y132.length : Int)) = true := decide_eq_true c22
         clear c22
         by_cases c23 : 0 ≤ x34_1
         ·rw [if_pos c23] at H
          have c23b0 : decide (0 ≤ x34_1) = true := decide_eq_true c23
          clear c23
          by_cases c24 : x34_1 < (y132.length : Int)
          ·rw [if_pos c24] at H
           have c24b0 : decide (x34_1 < (y132.length : Int)) = true := decide_eq_true c24
           clear c24
           by_cases c25 : (rdOf ByteArray.empty y132 x34_1).size + 2 ≤ 9223372036854775807
           ·rw [if_pos c25] at H
            have c25b0 := eq_true c25
            have c25b1 : decide ((rdOf ByteArray.empty y132 x34_1).size + 2 ≤ 9223372036854775807) = true := decide_eq_true c25
            try have c25b2 : (9223372036854775807 < (rdOf ByteArray.empty y132 x34_1).size + 2) = False := eq_false (Nat.not_lt.2 c25)
            by_cases c26 : x132001_1.size + ((rdOf ByteArray.empty y132 x34_1) ++ (⟨#[13, 10]⟩ : ByteArray)).size ≤ 9223372036854775807
            ·rw [if_pos c26] at H
             have c26b0 := eq_true c26
             have c26b1 : decide (x132001_1.size + ((rdOf ByteArray.empty y132 x34_1) ++ (⟨#[13, 10]⟩ : ByteArray)).size ≤ 9223372036854775807) = true := decide_eq_true c26
             try have c26b2 : (9223372036854775807 < x132001_1.size + ((rdOf ByteArray.empty y132 x34_1) ++ (⟨#[13, 10]⟩ : ByteArray)).size) = False := eq_false (Nat.not_lt.2 c26)
             try (have c26b2y := c26b2; rw [ByteArray.size_append] at c26b2y)
             try have c26b2z : (9223372036854775807 < x132001_1.size + ((rdOf ByteArray.empty y132 x34_1).size + 2)) = False := eq_false (fun h_ => by have g_ := c26; simp only [ByteArray.size_append, show (⟨#[13, 10]⟩ : ByteArray).size = 2 from rfl] at g_; omega)
             have H' := Aside0.mk H
             clear H
             have p137 : 0 ≤ (x34_1 : Int) := od
             have q137 : x34_1 < (y132.length : Int) := od
             obtain ⟨ad137, e137, hx137_0⟩ := Kd.at_string (Kd.V_reads' HO_32.out).2.2 x34_1 p137 q137
             cases e137
             replace p137 := eq_true p137
             replace q137 := eq_true q137
             have hnb27 := NB131_125.out
             have hnc27 := NB125_131.out
             have hcz28_0 : wr.cell? ⟨gb131, 0, none⟩ = some (.slice none 0 0) := (blk_cell BK131.out 0).trans rfl
             have hcz28_1 : wr.cell? ⟨gb131, 1, none⟩ = some (.string x132001_1) := (blk_cell BK131.out 1).trans rfl
             have hcz28_2 : wr.cell? ⟨gb131, 2, none⟩ = some (.bool (decide (t130 < 0))) := (blk_cell BK131.out 2).trans rfl
             have hfz28_0 := blk_frozen BK131.out 0
             have hfz28_1 := blk_frozen BK131.out 1
             have hfz28_2 := blk_frozen BK131.out 2
             go_wp2_with (first | ((with_reducible refine gate_store (t := 9) (p := 43) rfl ?_); refine store_event (t := 9) (p := 43) (v := ?vo_w29) (w1 := (wr.setCell ⟨gb131, 1, none⟩ (.string (x132001_1 ++ ((rdOf ByteArray.empty y132 x34_1) ++ (⟨#[13, 10]⟩ : ByteArray)))))) ?hg ?ho ?hn ?hr ?_; (case ho => rfl); (case hg => rfl); (case hn => rfl); (case hr => first | (go_simp; done) | (go_simp; rfl)); intro w29 hw; have n0_ : Aside0 (Kd.Q Kd.string 9 w29 w.heap.size (fun _ => True) (.slice Ao11 t126.length co11) t126) := ⟨(by rw [hw]; exact (by (with_reducible repeat (first | apply Kd.Q_alloc | apply Kd.Q_drewN | apply Kd.Q_drew)); exact Kd.Q_mono (Kd.Q_far (p := ⟨gb131, 1, none⟩) (Kd.Q_types HO_4.out BK131.out (by decide)) (fun _ hk => hk.2) (.string (x132001_1 ++ ((rdOf ByteArray.empty y132 x34_1) ++ (⟨#[13, 10]⟩ : ByteArray))))) (fun _ hk => trivial)))⟩; have n1_ : Aside0 (Kd.V Kd.string 9 w29 w.heap.size (fun k_ => k_ ≠ gb125 ∧ k_ ≠ gb131) (.slice (some ad137) y132.length c21) y132) := ⟨(by rw [hw]; exact (by (with_reducible repeat (first | apply Kd.V_alloc | apply Kd.V_drewN | apply Kd.V_drew)); exact Kd.V_mono (Kd.V_far (p := ⟨gb131, 1, none⟩) (Kd.V_mono HO_32.out (fun k_ hk => (⟨hk, hk.2⟩ : _ ∧ k_ ≠ gb131))) (fun _ hk => hk.2) (.string (x132001_1 ++ ((rdOf ByteArray.empty y132 x34_1) ++ (⟨#[13, 10]⟩ : ByteArray))))) (fun _ hk => ⟨hk.1.1, hk.1.2⟩)))⟩; have n2_ : Aside0 (w29.heap[gb125]? = some (.cells #[.slice none 0 0, .string (⟨#[]⟩ : ByteArray), .bool false] 24 (0, 0))) := ⟨(by rw [hw]; exact (bk BK125.out))⟩; have n3_ : Aside0 (w29.heap[gb131]? = some (.cells #[.slice none 0 0, .string (x132001_1 ++ ((rdOf ByteArray.empty y132 x34_1) ++ (⟨#[13, 10]⟩ : ByteArray))), .bool (decide (t130 < 0))] 24 (0, 0))) := ⟨(by rw [hw]; exact (by (with_reducible repeat (first | refine blk_drewN ?_ _ | refine blk_drew ?_ | refine blk_alloc ?_ _)); refine blk_put (cs := #[.slice none 0 0, .string x132001_1, .bool (decide (t130 < 0))]) ?_ 1 _ rfl; (with_reducible repeat (first | refine blk_drewN ?_ _ | refine blk_drew ?_ | refine blk_alloc ?_ _)); exact BK131.out))⟩; have n4_ : Aside0 (Below w.heap.size w w29) := ⟨(by rw [hw]; exact bl)⟩; clear hw; clear HO_4; clear HO_32; clear BK125; clear BK131; clear HB; have HO_4 := n0_; have HO_32 := n1_; have BK125 := n2_; have BK131 := n3_; have HB := n4_; clear n0_ n1_ n2_ n3_ n4_))
             go_roundg k1
             case measure => have := HK1.out; omega
             case rel => exact ⟨(wrap64 (x34_1 + 1)), (x132001_1 ++ ((rdOf ByteArray.empty y132 x34_1) ++ (⟨#[13, 10]⟩ : ByteArray))), (by first | rfl | (simp; done) | (simp [*]; done)), H', ⟨by have := HK1.out; omega⟩, ⟨by (with_reducible repeat (first | apply Kd.Q_alloc | apply Kd.Q_drewN | apply Kd.Q_drew)); exact HO_4.out⟩, ⟨by (with_reducible repeat (first | apply Kd.V_alloc | apply Kd.V_drewN | apply Kd.V_drew)); exact HO_32.out⟩, ⟨by (with_reducible repeat (first | refine blk_drewN ?_ _ | refine blk_drew ?_ | refine blk_alloc ?_ _)); exact BK125.out⟩, ⟨by (with_reducible repeat (first | refine blk_drewN ?_ _ | refine blk_drew ?_ | refine blk_alloc ?_ _)); exact BK131.out⟩, ⟨by repeat (first | (with_reducible first | exact HB.out | apply below_alloc | apply pw_below_drewN | apply below_drew1 | refine below_set ?_ GE125.out | refine below_set ?_ GE131.out) | exact HB.out)⟩⟩
            ·rw [if_neg c26] at H
             exact absurd H (by simp)
           ·rw [if_neg c25] at H
            exact absurd H (by simp)
          ·rw [if_neg c24] at H
           exact absurd H (by simp)
         ·rw [if_neg c23] at H
          exact absurd H (by simp)
        ·rw [if_neg c22] at H
         have c22b0 : decide (x34_1 < (y132.length : Int)) = false := decide_eq_false c22
         clear c22
         by_cases c30 : 0 ≤ t130
         ·rw [if_pos c30] at H
          have c30b0 := eq_true c30
          have c30b1 : decide (0 ≤ t130) = true := decide_eq_true c30
          clear c30
          by_cases c31 : t130 ≤ (t126.length : Int)
          ·rw [if_pos c31] at H
           have c31b0 := eq_true c31
           have c31b1 : decide (t130 ≤ (t126.length : Int)) = true := decide_eq_true c31
           clear c31
           obtain ⟨y138, hy138⟩ : ∃ y_ : List ByteArray, y_ = (t126.take (t130 : Int).toNat) := ⟨_, rfl⟩
           replace H : (head_Parse.j1 k1 y138 t127 x132001_1 (decide (t130 < 0))) = some (r1, r2, r3, r4) := by first | (rw [hy138]; with_reducible exact H) | (have H2_ := (Option.bind_some _ _).symm.trans H; rw [hy138]; with_reducible exact H2_) | (have H2_ := (Option.bind_some _ _).symm.trans H; with_reducible exact H2_) | with_reducible exact H | (rw [hy138]; exact H) | exact H
           have Ny138 := Aside0.mk hy138
           clear hy138
           have H' := Aside0.mk H
           clear H
           have q32 : (t130 : Int) ≤ ((t126.length : Int) : Int) := od
           obtain ⟨i032, hi032, _, hsz32, _⟩ := info_parts info9
           have hcut32 := cut_to (P := Tryd.prog) 37 9 .i64 Tryd.underlying37 hi032 Ao11 t126.length co11 t130 (od) q32 (Kd.Q_reads' HO_4.out).2.1
           have hr32 := Kd.Q_take (m := (t130 : Int).toNat) HO_4.out (by omega)
           have hy32 : y138.length = (t130 : Int).toNat := (by rw [Ny138.out, List.length_take]; omega)
           rw [← Ny138.out] at hr32
           rw [← hy32] at hr32 hcut32
           clear hy32 hi032 hsz32 HO_4
           have HO140 := Aside0.mk hr32
           clear hr32
           replace q32 := eq_true q32
           go_wp2
           go_meet
           case rel => exact ⟨_, (y138), (x132001_1), H', ⟨by have := HK1.out; first | omega | exact Nat.le_refl _⟩, ⟨by (with_reducible repeat (first | apply Kd.Q_alloc | apply Kd.Q_drewN | apply Kd.Q_drew)); exact HO140.out⟩, ⟨by (with_reducible repeat (first | refine blk_drewN ?_ _ | refine blk_drew ?_ | refine blk_alloc ?_ _)); exact BK125.out⟩, ⟨by (with_reducible repeat (first | refine blk_drewN ?_ _ | refine blk_drew ?_ | refine blk_alloc ?_ _)); exact BK131.out⟩, ⟨by repeat (first | (with_reducible first | exact HB.out | apply below_alloc | apply pw_below_drewN | apply below_drew1 | refine below_set ?_ GE125.out | refine below_set ?_ GE131.out) | exact HB.out)⟩⟩
          ·rw [if_neg c31] at H
           exact absurd H (by simp)
         ·rw [if_neg c30] at H
          exact absurd H (by simp)
     ·rw [if_neg c20] at H
      exact absurd H (by simp)
    ·rw [if_neg c19] at H
     exact absurd H (by simp)
  case rest =>
   clear HC8
   try clear c1
   try clear p1
   try clear q1
   try clear hx1
   try clear c2
   try clear c2b0
   try clear c2b1
   try clear p2
   try clear q2
   try clear c3
   try clear q3
   try clear c4
   try clear p6
   try clear c9
   try clear c13
   try clear p13
   try clear q13
   try clear hx13
   try clear c17
   try clear c17b0
   try clear c19
   try clear c19b0
   try clear c19b1
   try clear c20
   try clear c20b0
   try clear c20b1
   try clear c21
   try clear q21
   try clear c22
   try clear c22b0
   try clear c23
   try clear c23b0
   try clear c24
   try clear c24b0
   try clear c25
   try clear c25b0
   try clear c25b1
   try clear c25b2
   try clear c26
   try clear c26b0
   try clear c26b1
   try clear c26b2
   try clear c27
   try clear c30
   try clear c30b0
   try clear c30b1
   try clear c31
   try clear c31b0
   try clear c31b1
   try clear q32
   try clear hcz14_0
   try clear hcz14_1
   try clear hcz14_2
   try clear hcz16_0
   try clear hcz16_1
   try clear hcz16_2
   try clear hcz28_0
   try clear hcz28_1
   try clear hcz28_2
   try clear hcz4_0
   try clear hcz4_1
   try clear hcz4_2
   try clear hfz14_0
   try clear hfz14_1
   try clear hfz14_2
   try clear hfz16_0
   try clear hfz16_1
   try clear hfz16_2
   try clear hfz28_0
   try clear hfz28_1
   try clear hfz28_2
   try clear hfz4_0
   try clear hfz4_1
   try clear hfz4_2
   try clear hx137_0
   try clear p137
   try clear p2
   try clear p6
   try clear q021
   try clear q137
   try clear q2
   try clear q21
   try clear q32
   obtain ⟨kq, x4_7, x132001_7, HA, HJ7, HO_4, BK125, BK131, HB⟩ := hcut
   cases kq with
   | zero => exact absurd HA.out (by simp [head_Parse.j1])
   | succ kj7 =>
    have H := HA.out
    clear HA
    simp only [head_Parse.j1] at H
    have H' := Aside0.mk H
    clear H
    go_wp2
    go_loopg [4, 5] kj7 (fun kq v4 v5 w' => ∃ (x4_2 : List ByteArray) (x5_2 : Bool) (x132000_2 : List (S41)) (u132000 : Value), v5 = .bool x5_2 ∧ Aside0 (head_Parse.l1 kq x4_2 x5_2 x132000_2 x132001_7 (decide (t130 < 0)) = some (r1, r2, r3, r4)) ∧ Aside0 (kq ≤ kj7) ∧ Aside0 (Kd.Q Kd.string 9 w' w.heap.size (fun _ => True) v4 x4_2) ∧ Aside0 (Kd.R k41 41 w' w.heap.size (fun _ => True) u132000 x132000_2) ∧ Aside0 (w'.heap[gb125]? = some (.cells #[(.slice none 0 0), .string (⟨#[]⟩ : ByteArray), .bool false] 24 (0, 0))) ∧ Aside0 (w'.heap[gb131]? = some (.cells #[u132000, .string x132001_7, .bool (decide (t130 < 0))] 24 (0, 0))) ∧ Aside0 (Below w.heap.size w w'))
    case atStart => exact ⟨(x4_7), (t127), (([] : List (S41))), (.slice none 0 0), (by first | rfl | (simp; done) | (simp [*]; done)), H', ⟨Nat.le_refl _⟩, ⟨by (with_reducible repeat (first | apply Kd.Q_alloc | apply Kd.Q_drewN | apply Kd.Q_drew)); exact HO_4.out⟩, ⟨by first | exact Kd.R_nil _ _ _ _ _ | exact Kd.N_nil _ _ _ _ _ | exact Kd.V_nil _ _ _ _ _ | exact Kd.Q_nil _ _ _ _ _ | exact Kd.S_nil _ _ _ _ _⟩, ⟨by (with_reducible repeat (first | refine blk_drewN ?_ _ | refine blk_drew ?_ | refine blk_alloc ?_ _)); exact BK125.out⟩, ⟨by (with_reducible repeat (first | refine blk_drewN ?_ _ | refine blk_drew ?_ | refine blk_alloc ?_ _)); exact BK131.out⟩, ⟨by repeat (first | (with_reducible first | exact HB.out | apply below_alloc | apply pw_below_drewN | apply below_drew1 | refine below_set ?_ GE125.out | refine below_set ?_ GE131.out) | exact HB.out)⟩⟩
    case round =>
     clear H'
     try clear c1
     try clear p1
     try clear q1
     try clear hx1
     try clear c2
     try clear c2b0
     try clear c2b1
     try clear p2
     try clear q2
     try clear c3
     try clear q3
     try clear c4
     try clear p6
     try clear c9
     try clear c13
     try clear p13
     try clear q13
     try clear hx13
     try clear c17
     try clear c17b0
     try clear c19
     try clear c19b0
     try clear c19b1
     try clear c20
     try clear c20b0
     try clear c20b1
     try clear c21
     try clear q21
     try clear c22
     try clear c22b0
     try clear c23
     try clear c23b0
     try clear c24
     try clear c24b0
     try clear c25
     try clear c25b0
     try clear c25b1
     try clear c25b2
     try clear c26
     try clear c26b0
     try clear c26b1
     try clear c26b2
     try clear c27
     try clear c30
     try clear c30b0
     try clear c30b1
     try clear c31
     try clear c31b0
     try clear c31b1
     try clear q32
     try clear hcz14_0
     try clear hcz14_1
     try clear hcz14_2
     try clear hcz16_0
     try clear hcz16_1
     try clear hcz16_2
     try clear hcz28_0
     try clear hcz28_1
     try clear hcz28_2
     try clear hcz4_0
     try clear hcz4_1
     try clear hcz4_2
     try clear hfz14_0
     try clear hfz14_1
     try clear hfz14_2
     try clear hfz16_0
     try clear hfz16_1
     try clear hfz16_2
     try clear hfz28_0
     try clear hfz28_1
     try clear hfz28_2
     try clear hfz4_0
     try clear hfz4_1
     try clear hfz4_2
     try clear hx137_0
     try clear p1
     try clear p13
     try clear p137
     try clear p2
     try clear p6
     try clear q021
     try clear q1
     try clear q13
     try clear q137
     try clear q2
     try clear q21
     try clear q3
     try clear q32
     obtain ⟨x4_2, x5_2, x132000_2, u132000, rfl, HA, HK2, HO_4, HO_132000, BK125, BK131, HB⟩ := hrel
     cases gk with
     | zero => exact absurd HA.out (by simp [head_Parse.l1])
     | succ k2 =>
      have H := HA.out
      clear HA
      simp only [head_Parse.l1] at H
      have HC33 := Aside0.mk H
      clear H
      go_upto_region 13 with (fail)
      go_cut [53] (fun v53 wc => ∃ (kq : Nat) (x53_32 : Bool), v53 = .bool x53_32 ∧ Aside0 (head_Parse.j3 kq x4_2 x5_2 x53_32 x132000_2 x132001_7 (decide (t130 < 0)) = some (r1, r2, r3, r4)) ∧ Aside0 (kq ≤ k2) ∧ Aside0 (Kd.Q Kd.string 9 wc w.heap.size (fun _ => True) u4 x4_2) ∧ Aside0 (Kd.R k41 41 wc w.heap.size (fun _ => True) u132000 x132000_2) ∧ Aside0 (wc.heap[gb125]? = some (.cells #[(.slice none 0 0), .string (⟨#[]⟩ : ByteArray), .bool false] 24 (0, 0))) ∧ Aside0 (wc.heap[gb131]? = some (.cells #[u132000, .string x132001_7, .bool (decide (t130 < 0))] 24 (0, 0))) ∧ Aside0 (Below w.heap.size w wc))
      case first =>
       have H := HC33.out
       clear HC33
       by_cases c34 : x5_2 = true
       ·subst c34
        have H1 : (head_Parse.j3 k2 x4_2 true (decide ((x4_2.length : Int) > 0)) x132000_2 x132001_7 (decide (t130 < 0))) = some (r1, r2, r3, r4) := by rw [if_pos rfl] at H; exact H
        clear H
        have H := H1
        clear H1
        have H' := Aside0.mk H
        clear H
        obtain ⟨Ao35, co35, eo35, _⟩ := Kd.Q_slice HO_4.out
        subst eo35
        go_wp2
        go_meet
        case rel => exact ⟨_, (decide ((x4_2.length : Int) > 0)), (by first | rfl | (simp; done) | (simp [*]; done)), H', ⟨by have := HJ7.out; have := HK2.out; first | omega | exact Nat.le_refl _⟩, ⟨by (with_reducible repeat (first | apply Kd.Q_alloc | apply Kd.Q_drewN | apply Kd.Q_drew)); exact HO_4.out⟩, ⟨by (with_reducible repeat (first | apply Kd.R_alloc | apply Kd.R_drewN | apply Kd.R_drew)); exact HO_132000.out⟩, ⟨by (with_reducible repeat (first | refine blk_drewN ?_ _ | refine blk_drew ?_ | refine blk_alloc ?_ _)); exact BK125.out⟩, ⟨by (with_reducible repeat (first | refine blk_drewN ?_ _ | refine blk_drew ?_ | refine blk_alloc ?_ _)); exact BK131.out⟩, ⟨by repeat (first | (with_reducible first | exact HB.out | apply below_alloc | apply pw_below_drewN | apply below_drew1 | refine below_set ?_ GE125.out | refine below_set ?_ GE131.out) | exact HB.out)⟩⟩
       ·replace c34 := Bool.eq_false_iff.mpr c34
        subst c34
        have H1 : (head_Parse.j3 k2 x4_2 false false x132000_2 x132001_7 (decide (t130 < 0))) = some (r1, r2, r3, r4) := by rw [if_neg (show ¬ (false = true) by decide)] at H; exact H
        clear H
        have H := H1
        clear H1
        have H' := Aside0.mk H
        clear H
        go_wp2
        go_meet
        case rel => exact ⟨_, (false), (by first | rfl | (simp; done) | (simp [*]; done)), H', ⟨by have := HJ7.out; have := HK2.out; first | omega | exact Nat.le_refl _⟩, ⟨by (with_reducible repeat (first | apply Kd.Q_alloc | apply Kd.Q_drewN | apply Kd.Q_drew)); exact HO_4.out⟩, ⟨by (with_reducible repeat (first | apply Kd.R_alloc | apply Kd.R_drewN | apply Kd.R_drew)); exact HO_132000.out⟩, ⟨by (with_reducible repeat (first | refine blk_drewN ?_ _ | refine blk_drew ?_ | refine blk_alloc ?_ _)); exact BK125.out⟩, ⟨by (with_reducible repeat (first | refine blk_drewN ?_ _ | refine blk_drew ?_ | refine blk_alloc ?_ _)); exact BK131.out⟩, ⟨by repeat (first | (with_reducible first | exact HB.out | apply below_alloc | apply pw_below_drewN | apply below_drew1 | refine below_set ?_ GE125.out | refine below_set ?_ GE131.out) | exact HB.out)⟩⟩
      case rest =>
       clear HC33
       try clear c1
       try clear p1
       try clear q1
       try clear hx1
       try clear c2
       try clear c2b0
       try clear c2b1
       try clear p2
       try clear q2
       try clear c3
       try clear q3
       try clear c4
       try clear p6
       try clear c9
       try clear c13
       try clear p13
       try clear q13
       try clear hx13
       try clear c17
       try clear c17b0
       try clear c19
       try clear c19b0
       try clear c19b1
       try clear c20
       try clear c20b0
       try clear c20b1
       try clear c21
       try clear q21
       try clear c22
       try clear c22b0
       try clear c23
       try clear c23b0
       try clear c24
       try clear c24b0
       try clear c25
       try clear c25b0
       try clear c25b1
       try clear c25b2
       try clear c26
       try clear c26b0
       try clear c26b1
       try clear c26b2
       try clear c27
       try clear c30
       try clear c30b0
       try clear c30b1
       try clear c31
       try clear c31b0
       try clear c31b1
       try clear q32
       try clear c34
       try clear hcz14_0
       try clear hcz14_1
       try clear hcz14_2
       try clear hcz16_0
       try clear hcz16_1
       try clear hcz16_2
       try clear hcz28_0
       try clear hcz28_1
       try clear hcz28_2
       try clear hcz4_0
       try clear hcz4_1
       try clear hcz4_2
       try clear hfz14_0
       try clear hfz14_1
       try clear hfz14_2
       try clear hfz16_0
       try clear hfz16_1
       try clear hfz16_2
       try clear hfz28_0
       try clear hfz28_1
       try clear hfz28_2
       try clear hfz4_0
       try clear hfz4_1
       try clear hfz4_2
       try clear hx137_0
       try clear p1
       try clear p13
       try clear p137
       try clear p2
       try clear p6
       try clear q021
       try clear q1
       try clear q13
       try clear q137
       try clear q2
       try clear q21
       try clear q3
       try clear q32
       obtain ⟨kq, x53_32, rfl, HA, HJ32, HO_4, HO_132000, BK125, BK131, HB⟩ := hcut
       cases kq with
       | zero => exact absurd HA.out (by simp [head_Parse.j3])
       | succ kj32 =>
        have H := HA.out
        clear HA
        simp only [head_Parse.j3] at H
        by_cases c36 : x53_32 = true
        ·subst c36
         have H1 : (head_Parse.l2 kj32 x4_2 1 x132000_2 x132001_7 (decide (t130 < 0))) = some (r1, r2, r3, r4) := by rw [if_pos rfl] at H; exact H
         clear H
         have H := H1
         clear H1
         have H' := Aside0.mk H
         clear H
         go_wp2
         go_loopg [10] kj32 (fun kq v10 w' => ∃ (x10_4 : Int), v10 = .int .i64 x10_4 ∧ Aside0 (head_Parse.l2 kq x4_2 x10_4 x132000_2 x132001_7 (decide (t130 < 0)) = some (r1, r2, r3, r4)) ∧ Aside0 (kq ≤ kj32) ∧ Aside0 (Kd.Q Kd.string 9 w' w.heap.size (fun _ => True) u4 x4_2) ∧ Aside0 (Kd.R k41 41 w' w.heap.size (fun _ => True) u132000 x132000_2) ∧ Aside0 (w'.heap[gb125]? = some (.cells #[(.slice none 0 0), .string (⟨#[]⟩ : ByteArray), .bool false] 24 (0, 0))) ∧ Aside0 (w'.heap[gb131]? = some (.cells #[u132000, .string x132001_7, .bool (decide (t130 < 0))] 24 (0, 0))) ∧ Aside0 (Below w.heap.size w w'))
         case atStart => exact ⟨(1), (by first | rfl | (simp; done) | (simp [*]; done)), H', ⟨Nat.le_refl _⟩, ⟨by (with_reducible repeat (first | apply Kd.Q_alloc | apply Kd.Q_drewN | apply Kd.Q_drew)); exact HO_4.out⟩, ⟨by (with_reducible repeat (first | apply Kd.R_alloc | apply Kd.R_drewN | apply Kd.R_drew)); exact HO_132000.out⟩, ⟨by (with_reducible repeat (first | refine blk_drewN ?_ _ | refine blk_drew ?_ | refine blk_alloc ?_ _)); exact BK125.out⟩, ⟨by (with_reducible repeat (first | refine blk_drewN ?_ _ | refine blk_drew ?_ | refine blk_alloc ?_ _)); exact BK131.out⟩, ⟨by repeat (first | (with_reducible first | exact HB.out | apply below_alloc | apply pw_below_drewN | apply below_drew1 | refine below_set ?_ GE125.out | refine below_set ?_ GE131.out) | exact HB.out)⟩⟩
         case round =>
          clear H'
          try clear c1
          try clear p1
          try clear q1
          try clear hx1
          try clear c2
          try clear c2b0
          try clear c2b1
          try clear p2
          try clear q2
          try clear c3
          try clear q3
          try clear c4
          try clear p6
          try clear c9
          try clear c13
          try clear p13
          try clear q13
          try clear hx13
          try clear c17
          try clear c17b0
          try clear c19
          try clear c19b0
          try clear c19b1
          try clear c20
          try clear c20b0
          try clear c20b1
          try clear c21
          try clear q21
          try clear c22
          try clear c22b0
          try clear c23
          try clear c23b0
          try clear c24
          try clear c24b0
          try clear c25
          try clear c25b0
          try clear c25b1
          try clear c25b2
          try clear c26
          try clear c26b0
          try clear c26b1
          try clear c26b2
          try clear c27
          try clear c30
          try clear c30b0
          try clear c30b1
          try clear c31
          try clear c31b0
          try clear c31b1
          try clear q32
          try clear c34
          try clear c36
          try clear hcz14_0
          try clear hcz14_1
          try clear hcz14_2
          try clear hcz16_0
          try clear hcz16_1
          try clear hcz16_2
          try clear hcz28_0
          try clear hcz28_1
          try clear hcz28_2
          try clear hcz4_0
          try clear hcz4_1
          try clear hcz4_2
          try clear hfz14_0
          try clear hfz14_1
          try clear hfz14_2
          try clear hfz16_0
          try clear hfz16_1
          try clear hfz16_2
          try clear hfz28_0
          try clear hfz28_1
          try clear hfz28_2
          try clear hfz4_0
          try clear hfz4_1
          try clear hfz4_2
          try clear hx137_0
          try clear p1
          try clear p13
          try clear p137
          try clear p2
          try clear p6
          try clear q021
          try clear q1
          try clear q13
          try clear q137
          try clear q2
          try clear q21
          try clear q3
          try clear q32
          obtain ⟨x10_4, rfl, HA, HK4, HO_4, HO_132000, BK125, BK131, HB⟩ := hrel
          cases gk with
          | zero => exact absurd HA.out (by simp [head_Parse.l2])
          | succ k4 =>
           have H := HA.out
           clear HA
           simp only [head_Parse.l2] at H
           by_cases c37 : x10_4 < (x4_2.length : Int)
           ·rw [if_pos c37] at H
            have c37b0 : decide (x10_4 < (x4_2.length : Int)) = true := decide_eq_true c37
            clear c37
            by_cases c38 : 0 ≤ x10_4
            ·rw [if_pos c38] at H
             have c38b0 : decide (0 ≤ x10_4) = true := decide_eq_true c38
             clear c38
             replace H := Option.bind_eq_some_iff.mp H
             obtain ⟨t142, A390, H⟩ := H
             replace H : (if t142 = true then (head_Parse.l2 k4 x4_2 (wrap64 (x10_4 + 1)) x132000_2 x132001_7 (decide (t130 < 0))) else (if x10_4 ≤ (x4_2.length : Int) then ((head_field.f k4 (x4_2.take (x10_4 : Int).toNat)).bind fun bt148 => (if bt148.2.2.2 = true then (if x132000_2.length < 2932031007402 then (head_Parse.l1 k4 (x4_2.drop (x10_4 : Int).toNat) bt148.2.2.2 (x132000_2 ++ [(⟨bt148.1, bt148.2.1, bt148.2.2.1⟩ : S41)]) x132001_7 (decide (t130 < 0))) else (none)) else (head_Parse.l1 k4 (x4_2.drop (x10_4 : Int).toNat) bt148.2.2.2 x132000_2 x132001_7 (decide (t130 < 0))))) else (none))) = some (r1, r2, r3, r4) := H
             have A39 := Aside0.mk A390
             clear A390
             by_cases c40 : t142 = true
             ·subst c40
              have H1 : (head_Parse.l2 k4 x4_2 (wrap64 (x10_4 + 1)) x132000_2 x132001_7 (decide (t130 < 0))) = some (r1, r2, r3, r4) := by rw [if_pos rfl] at H; exact H
              clear H
              have H := H1
              clear H1
              have H' := Aside0.mk H
              clear H
              obtain ⟨Ao41, co41, eo41, _⟩ := Kd.Q_slice HO_4.out
              subst eo41
              have p141 : 0 ≤ (x10_4 : Int) := od
              have q141 : x10_4 < (x4_2.length : Int) := od
              obtain ⟨ad141, e141, hx141_0⟩ := Kd.at_string (Kd.Q_reads' HO_4.out).2.2 x10_4 p141 q141
              cases e141
              replace p141 := eq_true p141
              replace q141 := eq_true q141
              go_wp2_with (first | (go_at_call 41; (with_reducible refine (head_white.calls (rdOf ByteArray.empty x4_2 x10_4) true _ A39.out).mono ?_); rintro e w' ⟨rfl, ⟨nd, rfl⟩⟩))
              go_roundg k4
              case measure => have := HJ7.out; have := HK2.out; have := HJ32.out; have := HK4.out; omega
              case rel => exact ⟨(wrap64 (x10_4 + 1)), (by first | rfl | (simp; done) | (simp [*]; done)), H', ⟨by have := HJ7.out; have := HK2.out; have := HJ32.out; have := HK4.out; omega⟩, ⟨by (with_reducible repeat (first | apply Kd.Q_alloc | apply Kd.Q_drewN | apply Kd.Q_drew)); exact HO_4.out⟩, ⟨by (with_reducible repeat (first | apply Kd.R_alloc | apply Kd.R_drewN | apply Kd.R_drew)); exact HO_132000.out⟩, ⟨by (with_reducible repeat (first | refine blk_drewN ?_ _ | refine blk_drew ?_ | refine blk_alloc ?_ _)); exact BK125.out⟩, ⟨by (with_reducible repeat (first | refine blk_drewN ?_ _ | refine blk_drew ?_ | refine blk_alloc ?_ _)); exact BK131.out⟩, ⟨by repeat (first | (with_reducible first | exact HB.out | apply below_alloc | apply pw_below_drewN | apply below_drew1 | refine below_set ?_ GE125.out | refine below_set ?_ GE131.out) | exact HB.out)⟩⟩
             ·replace c40 := Bool.eq_false_iff.mpr c40
              subst c40
              have H1 : (if x10_4 ≤ (x4_2.length : Int) then ((head_field.f k4 (x4_2.take (x10_4 : Int).toNat)).bind fun bt148 => (if bt148.2.2.2 = true then (if x132000_2.length < 2932031007402 then (head_Parse.l1 k4 (x4_2.drop (x10_4 : Int).toNat) bt148.2.2.2 (x132000_2 ++ [(⟨bt148.1, bt148.2.1, bt148.2.2.1⟩ : S41)]) x132001_7 (decide (t130 < 0))) else (none)) else (head_Parse.l1 k4 (x4_2.drop (x10_4 : Int).toNat) bt148.2.2.2 x132000_2 x132001_7 (decide (t130 < 0))))) else (none)) = some (r1, r2, r3, r4) := by rw [if_neg (show ¬ (false = true) by decide)] at H; exact H
              clear H
              have H := H1
              clear H1
              have c42b0 := eq_true (od : 0 ≤ x10_4)
              by_cases c43 : x10_4 ≤ (x4_2.length : Int)
              ·rw [if_pos c43] at H
               have c43b0 := eq_true c43
               have c43b1 : decide (x10_4 ≤ (x4_2.length : Int)) = true := decide_eq_true c43
               clear c43
               obtain ⟨y144, hy144⟩ : ∃ y_ : List ByteArray, y_ = (x4_2.take (x10_4 : Int).toNat) := ⟨_, rfl⟩
               replace H : ((head_field.f k4 y144).bind fun bt148 => (if bt148.2.2.2 = true then (if x132000_2.length < 2932031007402 then (head_Parse.l1 k4 (x4_2.drop (x10_4 : Int).toNat) bt148.2.2.2 (x132000_2 ++ [(⟨bt148.1, bt148.2.1, bt148.2.2.1⟩ : S41)]) x132001_7 (decide (t130 < 0))) else (none)) else (head_Parse.l1 k4 (x4_2.drop (x10_4 : Int).toNat) bt148.2.2.2 x132000_2 x132001_7 (decide (t130 < 0))))) = some (r1, r2, r3, r4) := by first | (rw [hy144]; with_reducible exact H) | (have H2_ := (Option.bind_some _ _).symm.trans H; rw [hy144]; with_reducible exact H2_) | (have H2_ := (Option.bind_some _ _).symm.trans H; with_reducible exact H2_) | with_reducible exact H | (rw [hy144]; exact H) | exact H
               have Ny144 := Aside0.mk hy144
               clear hy144
               replace H := Option.bind_eq_some_iff.mp H
               obtain ⟨⟨t148, t149, t150, t151⟩, A440, H⟩ := H
               replace H : (if t151 = true then (if x132000_2.length < 2932031007402 then (head_Parse.l1 k4 (x4_2.drop (x10_4 : Int).toNat) t151 (x132000_2 ++ [(⟨t148, t149, t150⟩ : S41)]) x132001_7 (decide (t130 < 0))) else (none)) else (head_Parse.l1 k4 (x4_2.drop (x10_4 : Int).toNat) t151 x132000_2 x132001_7 (decide (t130 < 0)))) = some (r1, r2, r3, r4) := H
               have A44 := Aside0.mk A440
               clear A440
               by_cases c45 : t151 = true
               ·subst c45
                have H1 : (if x132000_2.length < 2932031007402 then (head_Parse.l1 k4 (x4_2.drop (x10_4 : Int).toNat) true (x132000_2 ++ [(⟨t148, t149, t150⟩ : S41)]) x132001_7 (decide (t130 < 0))) else (none)) = some (r1, r2, r3, r4) := by rw [if_pos rfl] at H; exact H
                clear H
                have H := H1
                clear H1
                by_cases c46 : x132000_2.length < 2932031007402
                ·rw [if_pos c46] at H
                 have LMc46 := Aside0.mk c46
                 clear c46
                 obtain ⟨y152, hy152⟩ : ∃ y_ : List (S41), y_ = (x132000_2 ++ [(⟨t148, t149, t150⟩ : S41)]) := ⟨_, rfl⟩
                 replace H : (head_Parse.l1 k4 (x4_2.drop (x10_4 : Int).toNat) true y152 x132001_7 (decide (t130 < 0))) = some (r1, r2, r3, r4) := by first | (rw [hy152]; with_reducible exact H) | (have H2_ := (Option.bind_some _ _).symm.trans H; rw [hy152]; with_reducible exact H2_) | (have H2_ := (Option.bind_some _ _).symm.trans H; with_reducible exact H2_) | with_reducible exact H | (rw [hy152]; exact H) | exact H
                 have Ny152 := Aside0.mk hy152
                 clear hy152
                 have c47b0 := eq_true (od : x10_4 ≤ (x4_2.length : Int))
                 obtain ⟨y155, hy155⟩ : ∃ y_ : List ByteArray, y_ = (x4_2.drop (x10_4 : Int).toNat) := ⟨_, rfl⟩
                 replace H : (head_Parse.l1 k4 y155 true y152 x132001_7 (decide (t130 < 0))) = some (r1, r2, r3, r4) := by first | (rw [hy155]; with_reducible exact H) | (have H2_ := (Option.bind_some _ _).symm.trans H; rw [hy155]; with_reducible exact H2_) | (have H2_ := (Option.bind_some _ _).symm.trans H; with_reducible exact H2_) | with_reducible exact H | (rw [hy155]; exact H) | exact H
                 have Ny155 := Aside0.mk hy155
                 clear hy155
                 have H' := Aside0.mk H
                 clear H
                 obtain ⟨Ao48, co48, eo48, _⟩ := Kd.Q_slice HO_4.out
                 subst eo48
                 have p141 : 0 ≤ (x10_4 : Int) := od
                 have q141 : x10_4 < (x4_2.length : Int) := od
                 obtain ⟨ad141, e141, hx141_0⟩ := Kd.at_string (Kd.Q_reads' HO_4.out).2.2 x10_4 p141 q141
                 cases e141
                 replace p141 := eq_true p141
                 replace q141 := eq_true q141
                 go_wp2_with (first | (go_at_call 41; (with_reducible refine (head_white.calls (rdOf ByteArray.empty x4_2 x10_4) false _ A39.out).mono ?_); rintro e w' ⟨rfl, ⟨nd, rfl⟩⟩; (try (rw [drewN_self wr]; generalize hq_ : World.drewN wr _ = wr; have n0_ : Aside0 (Kd.R k41 41 wr w.heap.size (fun _ => True) u132000 x132000_2) := ⟨by rw [← hq_]; exact (kr HO_132000.out)⟩; have n1_ : Aside0 (Kd.Q Kd.string 9 wr w.heap.size (fun _ => True) (.slice (some ad141) x4_2.length co48) x4_2) := ⟨by rw [← hq_]; exact (by (with_reducible repeat (first | apply Kd.Q_alloc | apply Kd.Q_drewN | apply Kd.Q_drew)); exact HO_4.out)⟩; have n2_ : Aside0 (wr.heap[gb125]? = some (.cells #[.slice none 0 0, .string (⟨#[]⟩ : ByteArray), .bool false] 24 (0, 0))) := ⟨by rw [← hq_]; exact (bk BK125.out)⟩; have n3_ : Aside0 (wr.heap[gb131]? = some (.cells #[u132000, .string x132001_7, .bool (decide (t130 < 0))] 24 (0, 0))) := ⟨by rw [← hq_]; exact (bk BK131.out)⟩; have n4_ : Aside0 (Below w.heap.size w wr) := ⟨by rw [← hq_]; exact bl⟩; clear HO_132000 HO_4 BK125 BK131 HB hq_; have HO_132000 := n0_; have HO_4 := n1_; have BK125 := n2_; have BK131 := n3_; have HB := n4_; clear n0_ n1_ n2_ n3_ n4_))) | ((with_reducible refine gate_dst (N := 11) rfl ?_); (try (refine gate_guard (by rfl) ?_; dsimp only)); refine box_event ?hg (N := 11) ?hd (cs := #[.string (⟨#[]⟩ : ByteArray), .string (⟨#[]⟩ : ByteArray), .string (⟨#[]⟩ : ByteArray)]) (t := 41) ?hr ?_; (case hd => rfl); (case hg => rfl); (case hr => first | (go_simp; done) | (go_simp; rfl)); intro gb143 hg w49 hbox hb; have n0_ := Aside0.mk (Kd.Q_below (by (with_reducible repeat (first | apply Kd.Q_alloc | apply Kd.Q_drewN | apply Kd.Q_drew)); exact HO_4.out) hb); have n1_ := Aside0.mk (Kd.R_below (Kd.R_elderB (kr HO_132000.out) gb143 (Nat.le_of_eq hg.symm)) hb); have n2_ := Aside0.mk (kb BK125.out hb); have n3_ := Aside0.mk (kb BK131.out hb); have n4_ := Aside0.mk (below_step bl hb); have n5_ := Aside0.mk (hbox); have n6_ := Aside0.mk ((by rw [hg]; exact (below_size bl) : w.heap.size ≤ gb143)); have n7_ := Aside0.mk ((by rw [hg]; exact (below_size bl) : w.heap.size ≤ gb143)); have n8_ := Aside0.mk ((by rw [hg]; exact Nat.ne_of_lt (blk_lt (bk BK125.out)) : gb125 ≠ gb143)); have n9_ := Aside0.mk ((by rw [hg]; exact Nat.ne_of_gt (blk_lt (bk BK125.out)) : gb143 ≠ gb125)); have n10_ := Aside0.mk ((by rw [hg]; exact Nat.ne_of_lt (blk_lt (bk BK131.out)) : gb131 ≠ gb143)); have n11_ := Aside0.mk ((by rw [hg]; exact Nat.ne_of_gt (blk_lt (bk BK131.out)) : gb143 ≠ gb131)); clear HO_4; clear HO_132000; clear BK125; clear BK131; clear HB; have HO_4 := n0_; have HO_132000 := n1_; have BK125 := n2_; have BK131 := n3_; have HB := n4_; have BK143 := n5_; have GW143 := n6_; have GE143 := n7_; have NB125_143 := n8_; have NB143_125 := n9_; have NB131_143 := n10_; have NB143_131 := n11_; clear n0_ n1_ n2_ n3_ n4_ n5_ n6_ n7_ n8_ n9_ n10_ n11_; clear hb hbox hg; have q50 : (x10_4 : Int) ≤ ((x4_2.length : Int) : Int) := od; obtain ⟨i050, hi050, _, hsz50, _⟩ := info_parts info9; have hroom50 : x4_2.length ≤ co48 := (Kd.Q_reads' HO_4.out).2.1; have hC50 : Kd.C Kd.string _ (some ad141) x4_2.length x4_2 := (Kd.Q_reads' HO_4.out).2.2; have hcut50 := cut_to (P := Tryd.prog) 37 9 .i64 Tryd.underlying37 hi050 (some ad141) x4_2.length co48 x10_4 (od) q50 hroom50; have hr50 := Kd.C_take (m := (x10_4 : Int).toNat) hC50 (by omega); have hy50 : y144.length = (x10_4 : Int).toNat := (by rw [Ny144.out, List.length_take]; omega); rw [← Ny144.out] at hr50; rw [← hy50] at hcut50; have HR147 := Aside0.mk hr50; have HC147 := Aside0.mk (show y144.length ≤ co48 from by omega); clear hr50 hC50 hroom50 hi050 hsz50; have KY50 := Aside0.mk hy50; clear hy50; have KL50 := Aside0.mk (show (x10_4 : Int).toNat ≤ x4_2.length from by omega); replace q50 := eq_true q50) | ((with_reducible refine gate_callee (f := 42) rfl ?_); refine goesL_ (some 71) rfl rfl Tryd.func42 (by kernel_rfl) rfl #[.slice (some ad141) y144.length co48] rfl ml ?_; (with_reducible refine (head_field.calls k4 _ _ y144 t148 t149 t150 true _ ?side1 ?side2 ?side3 A44.out).mono ?_); (case side1 => repeat (first | exact (by repeat (first | (with_reducible exact HR147.out) | (with_reducible refine Kd.C_alloc ?_ _) | (with_reducible refine Kd.C_drewN ?_ _) | (with_reducible refine Kd.C_drew ?_) | exact HR147.out)) | (with_reducible refine Kd.C_alloc ?_ _) | (with_reducible refine Kd.C_drewN ?_ _) | (with_reducible refine Kd.C_drew ?_))); (case side2 => exact HC147.out); (case side3 => exact Glob.below HG.out bl); rintro e w51 ⟨rfl, hb⟩; refine ⟨_, rfl, ?_⟩; have n0_ := Aside0.mk (Kd.Q_below (by (with_reducible repeat (first | apply Kd.Q_alloc | apply Kd.Q_drewN | apply Kd.Q_drew)); exact HO_4.out) hb); have n1_ := Aside0.mk (Kd.R_below (kr HO_132000.out) hb); have n2_ := Aside0.mk (kb BK125.out hb); have n3_ := Aside0.mk (kb BK131.out hb); have n4_ := Aside0.mk (kb BK143.out hb); have n5_ := Aside0.mk (Kd.C_below (by repeat (first | (with_reducible exact HR147.out) | (with_reducible refine Kd.C_alloc ?_ _) | (with_reducible refine Kd.C_drewN ?_ _) | (with_reducible refine Kd.C_drew ?_) | exact HR147.out)) hb); have n6_ := Aside0.mk (below_step bl hb); clear HO_4; clear HO_132000; clear BK125; clear BK131; clear BK143; clear HR147; clear HB; have HO_4 := n0_; have HO_132000 := n1_; have BK125 := n2_; have BK131 := n3_; have BK143 := n4_; have HR147 := n5_; have HB := n6_; clear n0_ n1_ n2_ n3_ n4_ n5_ n6_; (try clear hb); (try clear hb2); (try clear hk); (try clear hi); have hnb52 := NB143_125.out; have hnc52 := NB125_143.out; have hnb53 := NB143_131.out; have hnc53 := NB131_143.out; have hcz54_0 : w51.cell? ⟨gb143, 0, none⟩ = some (.string (⟨#[]⟩ : ByteArray)) := (blk_cell BK143.out 0).trans rfl; have hcz54_1 : w51.cell? ⟨gb143, 1, none⟩ = some (.string (⟨#[]⟩ : ByteArray)) := (blk_cell BK143.out 1).trans rfl; have hcz54_2 : w51.cell? ⟨gb143, 2, none⟩ = some (.string (⟨#[]⟩ : ByteArray)) := (blk_cell BK143.out 2).trans rfl; have hfz54_0 := blk_frozen BK143.out 0; have hfz54_1 := blk_frozen BK143.out 1; have hfz54_2 := blk_frozen BK143.out 2; have hnb55 := NB131_125.out; have hnc55 := NB125_131.out; have hcz56_0 : w51.cell? ⟨gb131, 0, none⟩ = some (u132000) := (blk_cell BK131.out 0).trans rfl; have hcz56_1 : w51.cell? ⟨gb131, 1, none⟩ = some (.string x132001_7) := (blk_cell BK131.out 1).trans rfl; have hcz56_2 : w51.cell? ⟨gb131, 2, none⟩ = some (.bool (decide (t130 < 0))) := (blk_cell BK131.out 2).trans rfl; have hfz56_0 := blk_frozen BK131.out 0; have hfz56_1 := blk_frozen BK131.out 1; have hfz56_2 := blk_frozen BK131.out 2) | ((with_reducible refine gate_builtin (b := .append) (xs := #[.tmp 76, .tmp 78]) rfl ?_); (try (refine gate_guard (by rfl) ?_; dsimp only)); at_builtin; refine Kd.R_append k41 (w0 := w) w.heap.size rfl (.tmp 76) (.tmp 78) 22 41 (.agg #[(.string ⟨#[]⟩), (.string ⟨#[]⟩), (.string ⟨#[]⟩)]) 48 rfl Tryd.underlying22 info41 rfl (by decide) (by omega) u132000 x132000_2 (⟨t148, t149, t150⟩ : S41) [.string t148, .string t149, .string t150] (fun k_ => k_ ≠ gb143) (fun _ => False) rfl (by first | (go_simp; done) | (go_simp; rfl)) ?aP (fun _ hk => hk.elim) ?aF ?aO ?aB ?aS ?aL ?_; (case aP => exact k41_mkM _ _ _ (⟨t148, t149, t150⟩ : S41)); (case aB => exact bl); (case aF => exact (fun k_ hk => Kd.freshB (g := gb143) (o := .cells #[.string t148, .string t149, .string t150] 41 (0, 0)) (by (with_reducible repeat (first | refine blk_drewN ?_ _ | refine blk_drew ?_ | refine blk_alloc ?_ _)); refine blk_put (cs := #[.string t148, .string t149, .string (⟨#[]⟩ : ByteArray)]) ?_ 2 _ rfl; (with_reducible repeat (first | refine blk_drewN ?_ _ | refine blk_drew ?_ | refine blk_alloc ?_ _)); refine blk_put (cs := #[.string t148, .string (⟨#[]⟩ : ByteArray), .string (⟨#[]⟩ : ByteArray)]) ?_ 1 _ rfl; (with_reducible repeat (first | refine blk_drewN ?_ _ | refine blk_drew ?_ | refine blk_alloc ?_ _)); refine blk_put (cs := #[.string (⟨#[]⟩ : ByteArray), .string (⟨#[]⟩ : ByteArray), .string (⟨#[]⟩ : ByteArray)]) ?_ 0 _ rfl; (with_reducible repeat (first | refine blk_drewN ?_ _ | refine blk_drew ?_ | refine blk_alloc ?_ _)); exact BK143.out) k_ hk)); (case aO => exact (by (with_reducible repeat (first | apply Kd.R_alloc | apply Kd.R_drewN | apply Kd.R_drew)); exact Kd.R_mono (Kd.R_far (p := ⟨gb143, 2, none⟩) (Kd.R_far (p := ⟨gb143, 1, none⟩) (Kd.R_far (p := ⟨gb143, 0, none⟩) (Kd.R_mono HO_132000.out (fun k_ hk => (⟨hk, hk.2⟩ : _ ∧ k_ ≠ gb143))) (fun _ hk => hk.2) (.string t148)) (fun _ hk => hk.2) (.string t149)) (fun _ hk => hk.2) (.string t150)) (fun _ hk => hk.1.2))); (case aS => exact (below_size bl)); (case aL => have := LMc46.out; omega); intro v153 w57 ho hb hg hat; rw [← Ny152.out] at ho; have n0_ := Aside0.mk (Kd.Q_over' (by (with_reducible repeat (first | apply Kd.Q_alloc | apply Kd.Q_drewN | apply Kd.Q_drew)); exact (Kd.Q_mono (Kd.Q_far (p := ⟨gb143, 2, none⟩) (Kd.Q_far (p := ⟨gb143, 1, none⟩) (Kd.Q_far (p := ⟨gb143, 0, none⟩) (Kd.Q_types HO_4.out BK143.out (by decide)) (fun _ hk => hk.2) (.string t148)) (fun _ hk => hk.2) (.string t149)) (fun _ hk => hk.2) (.string t150)) (fun _ h_ => h_.1))) (Kd.R_typed (by (with_reducible repeat (first | apply Kd.R_alloc | apply Kd.R_drewN | apply Kd.R_drew)); exact (Kd.R_mono (Kd.R_far (p := ⟨gb143, 2, none⟩) (Kd.R_far (p := ⟨gb143, 1, none⟩) (Kd.R_far (p := ⟨gb143, 0, none⟩) (Kd.R_mono HO_132000.out (fun k_ hk => (⟨hk, hk.2⟩ : _ ∧ k_ ≠ gb143))) (fun _ hk => hk.2) (.string t148)) (fun _ hk => hk.2) (.string t149)) (fun _ hk => hk.2) (.string t150)) (fun _ h_ => h_.1)))) (by decide) hg); have n1_ := Aside0.mk (blk_grown (g := gb125) (o := .cells #[.slice none 0 0, .string (⟨#[]⟩ : ByteArray), .bool false] 24 (0, 0)) (bk BK125.out) hg (Kd.R_ne HO_132000.out BK125.out (by decide))); have n2_ := Aside0.mk (blk_grown (g := gb131) (o := .cells #[u132000, .string x132001_7, .bool (decide (t130 < 0))] 24 (0, 0)) (bk BK131.out) hg (Kd.R_ne HO_132000.out BK131.out (by decide))); have n3_ := Aside0.mk (blk_grown (g := gb143) (o := .cells #[.string t148, .string t149, .string t150] 41 (0, 0)) (by (with_reducible repeat (first | refine blk_drewN ?_ _ | refine blk_drew ?_ | refine blk_alloc ?_ _)); refine blk_put (cs := #[.string t148, .string t149, .string (⟨#[]⟩ : ByteArray)]) ?_ 2 _ rfl; (with_reducible repeat (first | refine blk_drewN ?_ _ | refine blk_drew ?_ | refine blk_alloc ?_ _)); refine blk_put (cs := #[.string t148, .string (⟨#[]⟩ : ByteArray), .string (⟨#[]⟩ : ByteArray)]) ?_ 1 _ rfl; (with_reducible repeat (first | refine blk_drewN ?_ _ | refine blk_drew ?_ | refine blk_alloc ?_ _)); refine blk_put (cs := #[.string (⟨#[]⟩ : ByteArray), .string (⟨#[]⟩ : ByteArray), .string (⟨#[]⟩ : ByteArray)]) ?_ 0 _ rfl; (with_reducible repeat (first | refine blk_drewN ?_ _ | refine blk_drew ?_ | refine blk_alloc ?_ _)); exact BK143.out) hg (Kd.R_away HO_132000.out (fun _ hk => hk.2))); have n4_ := Aside0.mk (hb); have n5_ := Aside0.mk ((show Kd.C Kd.string w57 (some ad141) y144.length y144 from by rw [Ny144.out]; exact Kd.C_take (m := (x10_4 : Int).toNat) ((Kd.Q_reads' (Kd.Q_over' (by (with_reducible repeat (first | apply Kd.Q_alloc | apply Kd.Q_drewN | apply Kd.Q_drew)); exact (Kd.Q_mono (Kd.Q_far (p := ⟨gb143, 2, none⟩) (Kd.Q_far (p := ⟨gb143, 1, none⟩) (Kd.Q_far (p := ⟨gb143, 0, none⟩) (Kd.Q_types HO_4.out BK143.out (by decide)) (fun _ hk => hk.2) (.string t148)) (fun _ hk => hk.2) (.string t149)) (fun _ hk => hk.2) (.string t150)) (fun _ h_ => h_.1))) (Kd.R_typed (by (with_reducible repeat (first | apply Kd.R_alloc | apply Kd.R_drewN | apply Kd.R_drew)); exact (Kd.R_mono (Kd.R_far (p := ⟨gb143, 2, none⟩) (Kd.R_far (p := ⟨gb143, 1, none⟩) (Kd.R_far (p := ⟨gb143, 0, none⟩) (Kd.R_mono HO_132000.out (fun k_ hk => (⟨hk, hk.2⟩ : _ ∧ k_ ≠ gb143))) (fun _ hk => hk.2) (.string t148)) (fun _ hk => hk.2) (.string t149)) (fun _ hk => hk.2) (.string t150)) (fun _ h_ => h_.1)))) (by decide) hg)).2.2) KL50.out)); have n6_ := Aside0.mk (ho); clear HO_4; clear BK125; clear BK131; clear BK143; clear HB; clear HR147; clear HO_132000; have HO_4 := n0_; have BK125 := n1_; have BK131 := n2_; have BK143 := n3_; have HB := n4_; have HR147 := n5_; have HO154 := n6_; clear n0_ n1_ n2_ n3_ n4_ n5_ n6_; clear ho hb hg hat; obtain ⟨Ao58, co58, eo58⟩ := Kd.R_slice HO154.out; subst eo58; have hcz59_0 : w57.cell? ⟨gb131, 0, none⟩ = some (u132000) := (blk_cell BK131.out 0).trans rfl; have hcz59_1 : w57.cell? ⟨gb131, 1, none⟩ = some (.string x132001_7) := (blk_cell BK131.out 1).trans rfl; have hcz59_2 : w57.cell? ⟨gb131, 2, none⟩ = some (.bool (decide (t130 < 0))) := (blk_cell BK131.out 2).trans rfl; have hfz59_0 := blk_frozen BK131.out 0; have hfz59_1 := blk_frozen BK131.out 1; have hfz59_2 := blk_frozen BK131.out 2) | ((with_reducible refine gate_store (t := 22) (p := 80) rfl ?_); refine store_event (t := 22) (p := 80) (v := ?vo_w60) (w1 := (w57.setCell ⟨gb131, 0, none⟩ (.slice Ao58 y152.length co58))) ?hg ?ho ?hn ?hr ?_; (case ho => rfl); (case hg => rfl); (case hn => rfl); (case hr => first | (go_simp; done) | (go_simp; rfl)); intro w60 hw; have n0_ : Aside0 (Kd.Q Kd.string 9 w60 w.heap.size (fun _ => True) (.slice (some ad141) x4_2.length co48) x4_2) := ⟨(by rw [hw]; exact (by (with_reducible repeat (first | apply Kd.Q_alloc | apply Kd.Q_drewN | apply Kd.Q_drew)); exact Kd.Q_mono (Kd.Q_far (p := ⟨gb131, 0, none⟩) (Kd.Q_types HO_4.out BK131.out (by decide)) (fun _ hk => hk.2) (.slice Ao58 y152.length co58)) (fun _ hk => trivial)))⟩; have n1_ : Aside0 (Kd.R k41 41 w60 w.heap.size (fun k_ => k_ ≠ gb143) (.slice Ao58 y152.length co58) y152) := ⟨(by rw [hw]; exact (by (with_reducible repeat (first | apply Kd.R_alloc | apply Kd.R_drewN | apply Kd.R_drew)); exact Kd.R_mono (Kd.R_far (p := ⟨gb131, 0, none⟩) (Kd.R_types HO154.out BK131.out (by decide)) (fun _ hk => hk.2) (.slice Ao58 y152.length co58)) (fun _ hk => hk.1)))⟩; have n2_ : Aside0 (w60.heap[gb125]? = some (.cells #[.slice none 0 0, .string (⟨#[]⟩ : ByteArray), .bool false] 24 (0, 0))) := ⟨(by rw [hw]; exact (bk BK125.out))⟩; have n3_ : Aside0 (w60.heap[gb131]? = some (.cells #[.slice Ao58 y152.length co58, .string x132001_7, .bool (decide (t130 < 0))] 24 (0, 0))) := ⟨(by rw [hw]; exact (by (with_reducible repeat (first | refine blk_drewN ?_ _ | refine blk_drew ?_ | refine blk_alloc ?_ _)); refine blk_put (cs := #[u132000, .string x132001_7, .bool (decide (t130 < 0))]) ?_ 0 _ rfl; (with_reducible repeat (first | refine blk_drewN ?_ _ | refine blk_drew ?_ | refine blk_alloc ?_ _)); exact BK131.out))⟩; have n4_ : Aside0 (w60.heap[gb143]? = some (.cells #[.string t148, .string t149, .string t150] 41 (0, 0))) := ⟨(by rw [hw]; exact (bk BK143.out))⟩; have n5_ : Aside0 (Below w.heap.size w w60) := ⟨(by rw [hw]; exact bl)⟩; clear hw; clear HO_4; clear HO154; clear BK125; clear BK131; clear BK143; clear HB; have HO_4 := n0_; have HO154 := n1_; have BK125 := n2_; have BK131 := n3_; have BK143 := n4_; have HB := n5_; clear n0_ n1_ n2_ n3_ n4_ n5_; have q61 : (x10_4 : Int) ≤ ((x4_2.length : Int) : Int) := od; obtain ⟨i061, hi061, _, hsz61, _⟩ := info_parts info9; have hcut61 := cut_from (P := Tryd.prog) 37 9 .i64 Tryd.underlying37 hi061 1 hsz61 (some ad141) x4_2.length co48 x10_4 (od) q61; have hr61 := Kd.Q_drop (k := (x10_4 : Int).toNat) HO_4.out (by omega); obtain ⟨A61, hA61⟩ : ∃ A1, A1 = (if co48 = (x10_4 : Int).toNat then (some ad141) else ((some ad141) : Option Addr).map (·.add ((x10_4 : Int).toNat * 1))) := ⟨_, rfl⟩; obtain ⟨c61, hc61⟩ : ∃ c1, c1 = co48 - (x10_4 : Int).toNat := ⟨_, rfl⟩; have hy61 : y155.length = x4_2.length - (x10_4 : Int).toNat := (by rw [Ny155.out, List.length_drop]); rw [← Ny155.out] at hr61; rw [← hy61, ← hA61, ← hc61] at hcut61; replace hr61 : Kd.Q Kd.string 9 w60 w.heap.size (fun _ => True) (.slice A61 y155.length c61) y155 := (by rw [hA61, hc61, hy61]; exact hr61); have HE61 : Aside0 ((Value.slice A61 y155.length c61).ownBlock = (.slice (some ad141) x4_2.length co48 : Value).ownBlock) := ⟨by rw [hA61]; split <;> (cases ((some ad141) : Option Addr) <;> first | rfl | (simp only [Option.map_some, Value.ownBlock, add_block]; done))⟩; clear hy61 hi061 hsz61 HO_4 hA61 hc61; have HO157 := Aside0.mk hr61; clear hr61; replace q61 := eq_true q61))
                 go_roundg k4
                 case measure => have := HJ7.out; have := HK2.out; have := HJ32.out; have := HK4.out; omega
                 case rel => exact ⟨(y155), (true), (y152), (.slice Ao58 y152.length co58), (by first | rfl | (simp; done) | (simp [*]; done)), H', ⟨by have := HJ7.out; have := HK2.out; have := HJ32.out; have := HK4.out; omega⟩, ⟨by (with_reducible repeat (first | apply Kd.Q_alloc | apply Kd.Q_drewN | apply Kd.Q_drew)); exact HO157.out⟩, ⟨by (with_reducible repeat (first | apply Kd.R_alloc | apply Kd.R_drewN | apply Kd.R_drew)); exact Kd.R_mono HO154.out (fun _ hk => trivial)⟩, ⟨by (with_reducible repeat (first | refine blk_drewN ?_ _ | refine blk_drew ?_ | refine blk_alloc ?_ _)); exact BK125.out⟩, ⟨by (with_reducible repeat (first | refine blk_drewN ?_ _ | refine blk_drew ?_ | refine blk_alloc ?_ _)); exact BK131.out⟩, ⟨by repeat (first | (with_reducible first | exact HB.out | apply below_alloc | apply pw_below_drewN | apply below_drew1 | refine below_set ?_ GE125.out | refine below_set ?_ GE131.out | refine below_set ?_ GE143.out) | exact HB.out)⟩⟩
                ·rw [if_neg c46] at H
                 exact absurd H (by simp)
               ·replace c45 := Bool.eq_false_iff.mpr c45
                subst c45
                have H1 : (head_Parse.l1 k4 (x4_2.drop (x10_4 : Int).toNat) false x132000_2 x132001_7 (decide (t130 < 0))) = some (r1, r2, r3, r4) := by rw [if_neg (show ¬ (false = true) by decide)] at H; exact H
                clear H
                have H := H1
                clear H1
                have c62b0 := eq_true (od : x10_4 ≤ (x4_2.length : Int))
                obtain ⟨y158, hy158⟩ : ∃ y_ : List ByteArray, y_ = (x4_2.drop (x10_4 : Int).toNat) := ⟨_, rfl⟩
                replace H : (head_Parse.l1 k4 y158 false x132000_2 x132001_7 (decide (t130 < 0))) = some (r1, r2, r3, r4) := by first | (rw [hy158]; with_reducible exact H) | (have H2_ := (Option.bind_some _ _).symm.trans H; rw [hy158]; with_reducible exact H2_) | (have H2_ := (Option.bind_some _ _).symm.trans H; with_reducible exact H2_) | with_reducible exact H | (rw [hy158]; exact H) | exact H
                have Ny158 := Aside0.mk hy158
                clear hy158
                have H' := Aside0.mk H
                clear H
                obtain ⟨Ao63, co63, eo63, _⟩ := Kd.Q_slice HO_4.out
                subst eo63
                have p141 : 0 ≤ (x10_4 : Int) := od
                have q141 : x10_4 < (x4_2.length : Int) := od
                obtain ⟨ad141, e141, hx141_0⟩ := Kd.at_string (Kd.Q_reads' HO_4.out).2.2 x10_4 p141 q141
                cases e141
                replace p141 := eq_true p141
                replace q141 := eq_true q141
                go_wp2_with (first | (go_at_call 41; (with_reducible refine (head_white.calls (rdOf ByteArray.empty x4_2 x10_4) false _ A39.out).mono ?_); rintro e w' ⟨rfl, ⟨nd, rfl⟩⟩; (try (rw [drewN_self wr]; generalize hq_ : World.drewN wr _ = wr; have n0_ : Aside0 (Kd.R k41 41 wr w.heap.size (fun _ => True) u132000 x132000_2) := ⟨by rw [← hq_]; exact (kr HO_132000.out)⟩; have n1_ : Aside0 (Kd.Q Kd.string 9 wr w.heap.size (fun _ => True) (.slice (some ad141) x4_2.length co63) x4_2) := ⟨by rw [← hq_]; exact (by (with_reducible repeat (first | apply Kd.Q_alloc | apply Kd.Q_drewN | apply Kd.Q_drew)); exact HO_4.out)⟩; have n2_ : Aside0 (wr.heap[gb125]? = some (.cells #[.slice none 0 0, .string (⟨#[]⟩ : ByteArray), .bool false] 24 (0, 0))) := ⟨by rw [← hq_]; exact (bk BK125.out)⟩; have n3_ : Aside0 (wr.heap[gb131]? = some (.cells #[u132000, .string x132001_7, .bool (decide (t130 < 0))] 24 (0, 0))) := ⟨by rw [← hq_]; exact (bk BK131.out)⟩; have n4_ : Aside0 (Below w.heap.size w wr) := ⟨by rw [← hq_]; exact bl⟩; clear HO_132000 HO_4 BK125 BK131 HB hq_; have HO_132000 := n0_; have HO_4 := n1_; have BK125 := n2_; have BK131 := n3_; have HB := n4_; clear n0_ n1_ n2_ n3_ n4_))) | ((with_reducible refine gate_dst (N := 11) rfl ?_); (try (refine gate_guard (by rfl) ?_; dsimp only)); refine box_event ?hg (N := 11) ?hd (cs := #[.string (⟨#[]⟩ : ByteArray), .string (⟨#[]⟩ : ByteArray), .string (⟨#[]⟩ : ByteArray)]) (t := 41) ?hr ?_; (case hd => rfl); (case hg => rfl); (case hr => first | (go_simp; done) | (go_simp; rfl)); intro gb143 hg w64 hbox hb; have n0_ := Aside0.mk (Kd.Q_below (by (with_reducible repeat (first | apply Kd.Q_alloc | apply Kd.Q_drewN | apply Kd.Q_drew)); exact HO_4.out) hb); have n1_ := Aside0.mk (Kd.R_below (Kd.R_elderB (kr HO_132000.out) gb143 (Nat.le_of_eq hg.symm)) hb); have n2_ := Aside0.mk (kb BK125.out hb); have n3_ := Aside0.mk (kb BK131.out hb); have n4_ := Aside0.mk (below_step bl hb); have n5_ := Aside0.mk (hbox); have n6_ := Aside0.mk ((by rw [hg]; exact (below_size bl) : w.heap.size ≤ gb143)); have n7_ := Aside0.mk ((by rw [hg]; exact (below_size bl) : w.heap.size ≤ gb143)); have n8_ := Aside0.mk ((by rw [hg]; exact Nat.ne_of_lt (blk_lt (bk BK125.out)) : gb125 ≠ gb143)); have n9_ := Aside0.mk ((by rw [hg]; exact Nat.ne_of_gt (blk_lt (bk BK125.out)) : gb143 ≠ gb125)); have n10_ := Aside0.mk ((by rw [hg]; exact Nat.ne_of_lt (blk_lt (bk BK131.out)) : gb131 ≠ gb143)); have n11_ := Aside0.mk ((by rw [hg]; exact Nat.ne_of_gt (blk_lt (bk BK131.out)) : gb143 ≠ gb131)); clear HO_4; clear HO_132000; clear BK125; clear BK131; clear HB; have HO_4 := n0_; have HO_132000 := n1_; have BK125 := n2_; have BK131 := n3_; have HB := n4_; have BK143 := n5_; have GW143 := n6_; have GE143 := n7_; have NB125_143 := n8_; have NB143_125 := n9_; have NB131_143 := n10_; have NB143_131 := n11_; clear n0_ n1_ n2_ n3_ n4_ n5_ n6_ n7_ n8_ n9_ n10_ n11_; clear hb hbox hg; have q65 : (x10_4 : Int) ≤ ((x4_2.length : Int) : Int) := od; obtain ⟨i065, hi065, _, hsz65, _⟩ := info_parts info9; have hroom65 : x4_2.length ≤ co63 := (Kd.Q_reads' HO_4.out).2.1; have hC65 : Kd.C Kd.string _ (some ad141) x4_2.length x4_2 := (Kd.Q_reads' HO_4.out).2.2; have hcut65 := cut_to (P := Tryd.prog) 37 9 .i64 Tryd.underlying37 hi065 (some ad141) x4_2.length co63 x10_4 (od) q65 hroom65; have hr65 := Kd.C_take (m := (x10_4 : Int).toNat) hC65 (by omega); have hy65 : y144.length = (x10_4 : Int).toNat := (by rw [Ny144.out, List.length_take]; omega); rw [← Ny144.out] at hr65; rw [← hy65] at hcut65; have HR147 := Aside0.mk hr65; have HC147 := Aside0.mk (show y144.length ≤ co63 from by omega); clear hr65 hC65 hroom65 hi065 hsz65; have KY65 := Aside0.mk hy65; clear hy65; have KL65 := Aside0.mk (show (x10_4 : Int).toNat ≤ x4_2.length from by omega); replace q65 := eq_true q65) | ((with_reducible refine gate_callee (f := 42) rfl ?_); refine goesL_ (some 71) rfl rfl Tryd.func42 (by kernel_rfl) rfl #[.slice (some ad141) y144.length co63] rfl ml ?_; (with_reducible refine (head_field.calls k4 _ _ y144 t148 t149 t150 false _ ?side1 ?side2 ?side3 A44.out).mono ?_); (case side1 => repeat (first | exact (by repeat (first | (with_reducible exact HR147.out) | (with_reducible refine Kd.C_alloc ?_ _) | (with_reducible refine Kd.C_drewN ?_ _) | (with_reducible refine Kd.C_drew ?_) | exact HR147.out)) | (with_reducible refine Kd.C_alloc ?_ _) | (with_reducible refine Kd.C_drewN ?_ _) | (with_reducible refine Kd.C_drew ?_))); (case side2 => exact HC147.out); (case side3 => exact Glob.below HG.out bl); rintro e w66 ⟨rfl, hb⟩; refine ⟨_, rfl, ?_⟩; have n0_ := Aside0.mk (Kd.Q_below (by (with_reducible repeat (first | apply Kd.Q_alloc | apply Kd.Q_drewN | apply Kd.Q_drew)); exact HO_4.out) hb); have n1_ := Aside0.mk (Kd.R_below (kr HO_132000.out) hb); have n2_ := Aside0.mk (kb BK125.out hb); have n3_ := Aside0.mk (kb BK131.out hb); have n4_ := Aside0.mk (kb BK143.out hb); have n5_ := Aside0.mk (Kd.C_below (by repeat (first | (with_reducible exact HR147.out) | (with_reducible refine Kd.C_alloc ?_ _) | (with_reducible refine Kd.C_drewN ?_ _) | (with_reducible refine Kd.C_drew ?_) | exact HR147.out)) hb); have n6_ := Aside0.mk (below_step bl hb); clear HO_4; clear HO_132000; clear BK125; clear BK131; clear BK143; clear HR147; clear HB; have HO_4 := n0_; have HO_132000 := n1_; have BK125 := n2_; have BK131 := n3_; have BK143 := n4_; have HR147 := n5_; have HB := n6_; clear n0_ n1_ n2_ n3_ n4_ n5_ n6_; (try clear hb); (try clear hb2); (try clear hk); (try clear hi); have hnb67 := NB143_125.out; have hnc67 := NB125_143.out; have hnb68 := NB143_131.out; have hnc68 := NB131_143.out; have hcz69_0 : w66.cell? ⟨gb143, 0, none⟩ = some (.string (⟨#[]⟩ : ByteArray)) := (blk_cell BK143.out 0).trans rfl; have hcz69_1 : w66.cell? ⟨gb143, 1, none⟩ = some (.string (⟨#[]⟩ : ByteArray)) := (blk_cell BK143.out 1).trans rfl; have hcz69_2 : w66.cell? ⟨gb143, 2, none⟩ = some (.string (⟨#[]⟩ : ByteArray)) := (blk_cell BK143.out 2).trans rfl; have hfz69_0 := blk_frozen BK143.out 0; have hfz69_1 := blk_frozen BK143.out 1; have hfz69_2 := blk_frozen BK143.out 2) | ((with_reducible refine gate_store (t := 41) (p := 11) rfl ?_); refine store_event (t := 41) (p := 11) (v := ?vo_w70) (w1 := (((w66.setCell ⟨gb143, 0, none⟩ (.string t148)).setCell ⟨gb143, 1, none⟩ (.string t149)).setCell ⟨gb143, 2, none⟩ (.string t150))) ?hg ?ho ?hn ?hr ?_; (case ho => rfl); (case hg => rfl); (case hn => rfl); (case hr => first | (go_simp; done) | (go_simp; rfl)); intro w70 hw; have n0_ : Aside0 (Kd.Q Kd.string 9 w70 w.heap.size (fun _ => True) (.slice (some ad141) x4_2.length co63) x4_2) := ⟨(by rw [hw]; exact (by (with_reducible repeat (first | apply Kd.Q_alloc | apply Kd.Q_drewN | apply Kd.Q_drew)); exact Kd.Q_mono (Kd.Q_far (p := ⟨gb143, 2, none⟩) (Kd.Q_far (p := ⟨gb143, 1, none⟩) (Kd.Q_far (p := ⟨gb143, 0, none⟩) (Kd.Q_types HO_4.out BK143.out (by decide)) (fun _ hk => hk.2) (.string t148)) (fun _ hk => hk.2) (.string t149)) (fun _ hk => hk.2) (.string t150)) (fun _ hk => trivial)))⟩; have n1_ : Aside0 (Kd.R k41 41 w70 w.heap.size (fun k_ => k_ ≠ gb143) u132000 x132000_2) := ⟨(by rw [hw]; exact (by (with_reducible repeat (first | apply Kd.R_alloc | apply Kd.R_drewN | apply Kd.R_drew)); exact Kd.R_mono (Kd.R_far (p := ⟨gb143, 2, none⟩) (Kd.R_far (p := ⟨gb143, 1, none⟩) (Kd.R_far (p := ⟨gb143, 0, none⟩) (Kd.R_mono HO_132000.out (fun k_ hk => (⟨hk, hk.2⟩ : _ ∧ k_ ≠ gb143))) (fun _ hk => hk.2) (.string t148)) (fun _ hk => hk.2) (.string t149)) (fun _ hk => hk.2) (.string t150)) (fun _ hk => hk.1.2)))⟩; have n2_ : Aside0 (w70.heap[gb125]? = some (.cells #[.slice none 0 0, .string (⟨#[]⟩ : ByteArray), .bool false] 24 (0, 0))) := ⟨(by rw [hw]; exact (bk BK125.out))⟩; have n3_ : Aside0 (w70.heap[gb131]? = some (.cells #[u132000, .string x132001_7, .bool (decide (t130 < 0))] 24 (0, 0))) := ⟨(by rw [hw]; exact (bk BK131.out))⟩; have n4_ : Aside0 (w70.heap[gb143]? = some (.cells #[.string t148, .string t149, .string t150] 41 (0, 0))) := ⟨(by rw [hw]; exact (by (with_reducible repeat (first | refine blk_drewN ?_ _ | refine blk_drew ?_ | refine blk_alloc ?_ _)); refine blk_put (cs := #[.string t148, .string t149, .string (⟨#[]⟩ : ByteArray)]) ?_ 2 _ rfl; (with_reducible repeat (first | refine blk_drewN ?_ _ | refine blk_drew ?_ | refine blk_alloc ?_ _)); refine blk_put (cs := #[.string t148, .string (⟨#[]⟩ : ByteArray), .string (⟨#[]⟩ : ByteArray)]) ?_ 1 _ rfl; (with_reducible repeat (first | refine blk_drewN ?_ _ | refine blk_drew ?_ | refine blk_alloc ?_ _)); refine blk_put (cs := #[.string (⟨#[]⟩ : ByteArray), .string (⟨#[]⟩ : ByteArray), .string (⟨#[]⟩ : ByteArray)]) ?_ 0 _ rfl; (with_reducible repeat (first | refine blk_drewN ?_ _ | refine blk_drew ?_ | refine blk_alloc ?_ _)); exact BK143.out))⟩; have n5_ : Aside0 (Below w.heap.size w w70) := ⟨(by rw [hw]; exact bl)⟩; clear hw; clear HO_4; clear HO_132000; clear BK125; clear BK131; clear BK143; clear HB; have HO_4 := n0_; have HO_132000 := n1_; have BK125 := n2_; have BK131 := n3_; have BK143 := n4_; have HB := n5_; clear n0_ n1_ n2_ n3_ n4_ n5_; have q71 : (x10_4 : Int) ≤ ((x4_2.length : Int) : Int) := od; obtain ⟨i071, hi071, _, hsz71, _⟩ := info_parts info9; have hcut71 := cut_from (P := Tryd.prog) 37 9 .i64 Tryd.underlying37 hi071 1 hsz71 (some ad141) x4_2.length co63 x10_4 (od) q71; have hr71 := Kd.Q_drop (k := (x10_4 : Int).toNat) HO_4.out (by omega); obtain ⟨A71, hA71⟩ : ∃ A1, A1 = (if co63 = (x10_4 : Int).toNat then (some ad141) else ((some ad141) : Option Addr).map (·.add ((x10_4 : Int).toNat * 1))) := ⟨_, rfl⟩; obtain ⟨c71, hc71⟩ : ∃ c1, c1 = co63 - (x10_4 : Int).toNat := ⟨_, rfl⟩; have hy71 : y158.length = x4_2.length - (x10_4 : Int).toNat := (by rw [Ny158.out, List.length_drop]); rw [← Ny158.out] at hr71; rw [← hy71, ← hA71, ← hc71] at hcut71; replace hr71 : Kd.Q Kd.string 9 w70 w.heap.size (fun _ => True) (.slice A71 y158.length c71) y158 := (by rw [hA71, hc71, hy71]; exact hr71); have HE71 : Aside0 ((Value.slice A71 y158.length c71).ownBlock = (.slice (some ad141) x4_2.length co63 : Value).ownBlock) := ⟨by rw [hA71]; split <;> (cases ((some ad141) : Option Addr) <;> first | rfl | (simp only [Option.map_some, Value.ownBlock, add_block]; done))⟩; clear hy71 hi071 hsz71 HO_4 hA71 hc71; have HO160 := Aside0.mk hr71; clear hr71; replace q71 := eq_true q71))
                go_roundg k4
                case measure => have := HJ7.out; have := HK2.out; have := HJ32.out; have := HK4.out; omega
                case rel => exact ⟨(y158), (false), (x132000_2), (u132000), (by first | rfl | (simp; done) | (simp [*]; done)), H', ⟨by have := HJ7.out; have := HK2.out; have := HJ32.out; have := HK4.out; omega⟩, ⟨by (with_reducible repeat (first | apply Kd.Q_alloc | apply Kd.Q_drewN | apply Kd.Q_drew)); exact HO160.out⟩, ⟨by (with_reducible repeat (first | apply Kd.R_alloc | apply Kd.R_drewN | apply Kd.R_drew)); exact Kd.R_mono HO_132000.out (fun _ hk => trivial)⟩, ⟨by (with_reducible repeat (first | refine blk_drewN ?_ _ | refine blk_drew ?_ | refine blk_alloc ?_ _)); exact BK125.out⟩, ⟨by (with_reducible repeat (first | refine blk_drewN ?_ _ | refine blk_drew ?_ | refine blk_alloc ?_ _)); exact BK131.out⟩, ⟨by repeat (first | (with_reducible first | exact HB.out | apply below_alloc | apply pw_below_drewN | apply below_drew1 | refine below_set ?_ GE125.out | refine below_set ?_ GE131.out | refine below_set ?_ GE143.out) | exact HB.out)⟩⟩
              ·rw [if_neg c43] at H
               exact absurd H (by simp)
            ·rw [if_neg c38] at H
             exact absurd H (by simp)
           ·rw [if_neg c37] at H
            have c37b0 : decide (x10_4 < (x4_2.length : Int)) = false := decide_eq_false c37
            clear c37
            by_cases c72 : 0 ≤ x10_4
            ·rw [if_pos c72] at H
             have c72b0 := eq_true c72
             have c72b1 : decide (0 ≤ x10_4) = true := decide_eq_true c72
             clear c72
             by_cases c73 : x10_4 ≤ (x4_2.length : Int)
             ·rw [if_pos c73] at H
              have c73b0 := eq_true c73
              have c73b1 : decide (x10_4 ≤ (x4_2.length : Int)) = true := decide_eq_true c73
              clear c73
              obtain ⟨y162, hy162⟩ : ∃ y_ : List ByteArray, y_ = (x4_2.take (x10_4 : Int).toNat) := ⟨_, rfl⟩
              replace H : ((head_field.f k4 y162).bind fun bt166 => (if bt166.2.2.2 = true then (if x132000_2.length < 2932031007402 then (head_Parse.l1 k4 (x4_2.drop (x10_4 : Int).toNat) bt166.2.2.2 (x132000_2 ++ [(⟨bt166.1, bt166.2.1, bt166.2.2.1⟩ : S41)]) x132001_7 (decide (t130 < 0))) else (none)) else (head_Parse.l1 k4 (x4_2.drop (x10_4 : Int).toNat) bt166.2.2.2 x132000_2 x132001_7 (decide (t130 < 0))))) = some (r1, r2, r3, r4) := by first | (rw [hy162]; with_reducible exact H) | (have H2_ := (Option.bind_some _ _).symm.trans H; rw [hy162]; with_reducible exact H2_) | (have H2_ := (Option.bind_some _ _).symm.trans H; with_reducible exact H2_) | with_reducible exact H | (rw [hy162]; exact H) | exact H
              have Ny162 := Aside0.mk hy162
              clear hy162
              replace H := Option.bind_eq_some_iff.mp H
              obtain ⟨⟨t166, t167, t168, t169⟩, A740, H⟩ := H
              replace H : (if t169 = true then (if x132000_2.length < 2932031007402 then (head_Parse.l1 k4 (x4_2.drop (x10_4 : Int).toNat) t169 (x132000_2 ++ [(⟨t166, t167, t168⟩ : S41)]) x132001_7 (decide (t130 < 0))) else (none)) else (head_Parse.l1 k4 (x4_2.drop (x10_4 : Int).toNat) t169 x132000_2 x132001_7 (decide (t130 < 0)))) = some (r1, r2, r3, r4) := H
              have A74 := Aside0.mk A740
              clear A740
              by_cases c75 : t169 = true
              ·subst c75
               have H1 : (if x132000_2.length < 2932031007402 then (head_Parse.l1 k4 (x4_2.drop (x10_4 : Int).toNat) true (x132000_2 ++ [(⟨t166, t167, t168⟩ : S41)]) x132001_7 (decide (t130 < 0))) else (none)) = some (r1, r2, r3, r4) := by rw [if_pos rfl] at H; exact H
               clear H
               have H := H1
               clear H1
               by_cases c76 : x132000_2.length < 2932031007402
               ·rw [if_pos c76] at H
                have LMc76 := Aside0.mk c76
                clear c76
                obtain ⟨y170, hy170⟩ : ∃ y_ : List (S41), y_ = (x132000_2 ++ [(⟨t166, t167, t168⟩ : S41)]) := ⟨_, rfl⟩
                replace H : (head_Parse.l1 k4 (x4_2.drop (x10_4 : Int).toNat) true y170 x132001_7 (decide (t130 < 0))) = some (r1, r2, r3, r4) := by first | (rw [hy170]; with_reducible exact H) | (have H2_ := (Option.bind_some _ _).symm.trans H; rw [hy170]; with_reducible exact H2_) | (have H2_ := (Option.bind_some _ _).symm.trans H; with_reducible exact H2_) | with_reducible exact H | (rw [hy170]; exact H) | exact H
                have Ny170 := Aside0.mk hy170
                clear hy170
                have c77b0 := eq_true (od : x10_4 ≤ (x4_2.length : Int))
                obtain ⟨y173, hy173⟩ : ∃ y_ : List ByteArray, y_ = (x4_2.drop (x10_4 : Int).toNat) := ⟨_, rfl⟩
                replace H : (head_Parse.l1 k4 y173 true y170 x132001_7 (decide (t130 < 0))) = some (r1, r2, r3, r4) := by first | (rw [hy173]; with_reducible exact H) | (have H2_ := (Option.bind_some _ _).symm.trans H; rw [hy173]; with_reducible exact H2_) | (have H2_ := (Option.bind_some _ _).symm.trans H; with_reducible exact H2_) | with_reducible exact H | (rw [hy173]; exact H) | exact H
                have Ny173 := Aside0.mk hy173
                clear hy173
                have H' := Aside0.mk H
                clear H
                obtain ⟨Ao78, co78, eo78, _⟩ := Kd.Q_slice HO_4.out
                subst eo78
                go_wp2_with (first | ((with_reducible refine gate_dst (N := 11) rfl ?_); (try (refine gate_guard (by rfl) ?_; dsimp only)); refine box_event ?hg (N := 11) ?hd (cs := #[.string (⟨#[]⟩ : ByteArray), .string (⟨#[]⟩ : ByteArray), .string (⟨#[]⟩ : ByteArray)]) (t := 41) ?hr ?_; (case hd => rfl); (case hg => rfl); (case hr => first | (go_simp; done) | (go_simp; rfl)); intro gb161 hg w79 hbox hb; have n0_ := Aside0.mk (Kd.Q_below (by (with_reducible repeat (first | apply Kd.Q_alloc | apply Kd.Q_drewN | apply Kd.Q_drew)); exact HO_4.out) hb); have n1_ := Aside0.mk (Kd.R_below (Kd.R_elderB (kr HO_132000.out) gb161 (Nat.le_of_eq hg.symm)) hb); have n2_ := Aside0.mk (kb BK125.out hb); have n3_ := Aside0.mk (kb BK131.out hb); have n4_ := Aside0.mk (below_step bl hb); have n5_ := Aside0.mk (hbox); have n6_ := Aside0.mk ((by rw [hg]; exact (below_size bl) : w.heap.size ≤ gb161)); have n7_ := Aside0.mk ((by rw [hg]; exact (below_size bl) : w.heap.size ≤ gb161)); have n8_ := Aside0.mk ((by rw [hg]; exact Nat.ne_of_lt (blk_lt (bk BK125.out)) : gb125 ≠ gb161)); have n9_ := Aside0.mk ((by rw [hg]; exact Nat.ne_of_gt (blk_lt (bk BK125.out)) : gb161 ≠ gb125)); have n10_ := Aside0.mk ((by rw [hg]; exact Nat.ne_of_lt (blk_lt (bk BK131.out)) : gb131 ≠ gb161)); have n11_ := Aside0.mk ((by rw [hg]; exact Nat.ne_of_gt (blk_lt (bk BK131.out)) : gb161 ≠ gb131)); clear HO_4; clear HO_132000; clear BK125; clear BK131; clear HB; have HO_4 := n0_; have HO_132000 := n1_; have BK125 := n2_; have BK131 := n3_; have HB := n4_; have BK161 := n5_; have GW161 := n6_; have GE161 := n7_; have NB125_161 := n8_; have NB161_125 := n9_; have NB131_161 := n10_; have NB161_131 := n11_; clear n0_ n1_ n2_ n3_ n4_ n5_ n6_ n7_ n8_ n9_ n10_ n11_; clear hb hbox hg; have q80 : (x10_4 : Int) ≤ ((x4_2.length : Int) : Int) := od; obtain ⟨i080, hi080, _, hsz80, _⟩ := info_parts info9; have hroom80 : x4_2.length ≤ co78 := (Kd.Q_reads' HO_4.out).2.1; have hC80 : Kd.C Kd.string _ Ao78 x4_2.length x4_2 := (Kd.Q_reads' HO_4.out).2.2; have hcut80 := cut_to (P := Tryd.prog) 37 9 .i64 Tryd.underlying37 hi080 Ao78 x4_2.length co78 x10_4 (od) q80 hroom80; have hr80 := Kd.C_take (m := (x10_4 : Int).toNat) hC80 (by omega); have hy80 : y162.length = (x10_4 : Int).toNat := (by rw [Ny162.out, List.length_take]; omega); rw [← Ny162.out] at hr80; rw [← hy80] at hcut80; have HR165 := Aside0.mk hr80; have HC165 := Aside0.mk (show y162.length ≤ co78 from by omega); clear hr80 hC80 hroom80 hi080 hsz80; have KY80 := Aside0.mk hy80; clear hy80; have KL80 := Aside0.mk (show (x10_4 : Int).toNat ≤ x4_2.length from by omega); replace q80 := eq_true q80) | ((with_reducible refine gate_callee (f := 42) rfl ?_); refine goesL_ (some 71) rfl rfl Tryd.func42 (by kernel_rfl) rfl #[.slice Ao78 y162.length co78] rfl ml ?_; (with_reducible refine (head_field.calls k4 _ _ y162 t166 t167 t168 true _ ?side1 ?side2 ?side3 A74.out).mono ?_); (case side1 => repeat (first | exact (by repeat (first | (with_reducible exact HR165.out) | (with_reducible refine Kd.C_alloc ?_ _) | (with_reducible refine Kd.C_drewN ?_ _) | (with_reducible refine Kd.C_drew ?_) | exact HR165.out)) | (with_reducible refine Kd.C_alloc ?_ _) | (with_reducible refine Kd.C_drewN ?_ _) | (with_reducible refine Kd.C_drew ?_))); (case side2 => exact HC165.out); (case side3 => exact Glob.below HG.out bl); rintro e w81 ⟨rfl, hb⟩; refine ⟨_, rfl, ?_⟩; have n0_ := Aside0.mk (Kd.Q_below (by (with_reducible repeat (first | apply Kd.Q_alloc | apply Kd.Q_drewN | apply Kd.Q_drew)); exact HO_4.out) hb); have n1_ := Aside0.mk (Kd.R_below (kr HO_132000.out) hb); have n2_ := Aside0.mk (kb BK125.out hb); have n3_ := Aside0.mk (kb BK131.out hb); have n4_ := Aside0.mk (kb BK161.out hb); have n5_ := Aside0.mk (Kd.C_below (by repeat (first | (with_reducible exact HR165.out) | (with_reducible refine Kd.C_alloc ?_ _) | (with_reducible refine Kd.C_drewN ?_ _) | (with_reducible refine Kd.C_drew ?_) | exact HR165.out)) hb); have n6_ := Aside0.mk (below_step bl hb); clear HO_4; clear HO_132000; clear BK125; clear BK131; clear BK161; clear HR165; clear HB; have HO_4 := n0_; have HO_132000 := n1_; have BK125 := n2_; have BK131 := n3_; have BK161 := n4_; have HR165 := n5_; have HB := n6_; clear n0_ n1_ n2_ n3_ n4_ n5_ n6_; (try clear hb); (try clear hb2); (try clear hk); (try clear hi); have hnb82 := NB161_125.out; have hnc82 := NB125_161.out; have hnb83 := NB161_131.out; have hnc83 := NB131_161.out; have hcz84_0 : w81.cell? ⟨gb161, 0, none⟩ = some (.string (⟨#[]⟩ : ByteArray)) := (blk_cell BK161.out 0).trans rfl; have hcz84_1 : w81.cell? ⟨gb161, 1, none⟩ = some (.string (⟨#[]⟩ : ByteArray)) := (blk_cell BK161.out 1).trans rfl; have hcz84_2 : w81.cell? ⟨gb161, 2, none⟩ = some (.string (⟨#[]⟩ : ByteArray)) := (blk_cell BK161.out 2).trans rfl; have hfz84_0 := blk_frozen BK161.out 0; have hfz84_1 := blk_frozen BK161.out 1; have hfz84_2 := blk_frozen BK161.out 2; have hnb85 := NB131_125.out; have hnc85 := NB125_131.out; have hcz86_0 : w81.cell? ⟨gb131, 0, none⟩ = some (u132000) := (blk_cell BK131.out 0).trans rfl; have hcz86_1 : w81.cell? ⟨gb131, 1, none⟩ = some (.string x132001_7) := (blk_cell BK131.out 1).trans rfl; have hcz86_2 : w81.cell? ⟨gb131, 2, none⟩ = some (.bool (decide (t130 < 0))) := (blk_cell BK131.out 2).trans rfl; have hfz86_0 := blk_frozen BK131.out 0; have hfz86_1 := blk_frozen BK131.out 1; have hfz86_2 := blk_frozen BK131.out 2) | ((with_reducible refine gate_builtin (b := .append) (xs := #[.tmp 76, .tmp 78]) rfl ?_); (try (refine gate_guard (by rfl) ?_; dsimp only)); at_builtin; refine Kd.R_append k41 (w0 := w) w.heap.size rfl (.tmp 76) (.tmp 78) 22 41 (.agg #[(.string ⟨#[]⟩), (.string ⟨#[]⟩), (.string ⟨#[]⟩)]) 48 rfl Tryd.underlying22 info41 rfl (by decide) (by omega) u132000 x132000_2 (⟨t166, t167, t168⟩ : S41) [.string t166, .string t167, .string t168] (fun k_ => k_ ≠ gb161) (fun _ => False) rfl (by first | (go_simp; done) | (go_simp; rfl)) ?aP (fun _ hk => hk.elim) ?aF ?aO ?aB ?aS ?aL ?_; (case aP => exact k41_mkM _ _ _ (⟨t166, t167, t168⟩ : S41)); (case aB => exact bl); (case aF => exact (fun k_ hk => Kd.freshB (g := gb161) (o := .cells #[.string t166, .string t167, .string t168] 41 (0, 0)) (by (with_reducible repeat (first | refine blk_drewN ?_ _ | refine blk_drew ?_ | refine blk_alloc ?_ _)); refine blk_put (cs := #[.string t166, .string t167, .string (⟨#[]⟩ : ByteArray)]) ?_ 2 _ rfl; (with_reducible repeat (first | refine blk_drewN ?_ _ | refine blk_drew ?_ | refine blk_alloc ?_ _)); refine blk_put (cs := #[.string t166, .string (⟨#[]⟩ : ByteArray), .string (⟨#[]⟩ : ByteArray)]) ?_ 1 _ rfl; (with_reducible repeat (first | refine blk_drewN ?_ _ | refine blk_drew ?_ | refine blk_alloc ?_ _)); refine blk_put (cs := #[.string (⟨#[]⟩ : ByteArray), .string (⟨#[]⟩ : ByteArray), .string (⟨#[]⟩ : ByteArray)]) ?_ 0 _ rfl; (with_reducible repeat (first | refine blk_drewN ?_ _ | refine blk_drew ?_ | refine blk_alloc ?_ _)); exact BK161.out) k_ hk)); (case aO => exact (by (with_reducible repeat (first | apply Kd.R_alloc | apply Kd.R_drewN | apply Kd.R_drew)); exact Kd.R_mono (Kd.R_far (p := ⟨gb161, 2, none⟩) (Kd.R_far (p := ⟨gb161, 1, none⟩) (Kd.R_far (p := ⟨gb161, 0, none⟩) (Kd.R_mono HO_132000.out (fun k_ hk => (⟨hk, hk.2⟩ : _ ∧ k_ ≠ gb161))) (fun _ hk => hk.2) (.string t166)) (fun _ hk => hk.2) (.string t167)) (fun _ hk => hk.2) (.string t168)) (fun _ hk => hk.1.2))); (case aS => exact (below_size bl)); (case aL => have := LMc76.out; omega); intro v171 w87 ho hb hg hat; rw [← Ny170.out] at ho; have n0_ := Aside0.mk (Kd.Q_over' (by (with_reducible repeat (first | apply Kd.Q_alloc | apply Kd.Q_drewN | apply Kd.Q_drew)); exact (Kd.Q_mono (Kd.Q_far (p := ⟨gb161, 2, none⟩) (Kd.Q_far (p := ⟨gb161, 1, none⟩) (Kd.Q_far (p := ⟨gb161, 0, none⟩) (Kd.Q_types HO_4.out BK161.out (by decide)) (fun _ hk => hk.2) (.string t166)) (fun _ hk => hk.2) (.string t167)) (fun _ hk => hk.2) (.string t168)) (fun _ h_ => h_.1))) (Kd.R_typed (by (with_reducible repeat (first | apply Kd.R_alloc | apply Kd.R_drewN | apply Kd.R_drew)); exact (Kd.R_mono (Kd.R_far (p := ⟨gb161, 2, none⟩) (Kd.R_far (p := ⟨gb161, 1, none⟩) (Kd.R_far (p := ⟨gb161, 0, none⟩) (Kd.R_mono HO_132000.out (fun k_ hk => (⟨hk, hk.2⟩ : _ ∧ k_ ≠ gb161))) (fun _ hk => hk.2) (.string t166)) (fun _ hk => hk.2) (.string t167)) (fun _ hk => hk.2) (.string t168)) (fun _ h_ => h_.1)))) (by decide) hg); have n1_ := Aside0.mk (blk_grown (g := gb125) (o := .cells #[.slice none 0 0, .string (⟨#[]⟩ : ByteArray), .bool false] 24 (0, 0)) (bk BK125.out) hg (Kd.R_ne HO_132000.out BK125.out (by decide))); have n2_ := Aside0.mk (blk_grown (g := gb131) (o := .cells #[u132000, .string x132001_7, .bool (decide (t130 < 0))] 24 (0, 0)) (bk BK131.out) hg (Kd.R_ne HO_132000.out BK131.out (by decide))); have n3_ := Aside0.mk (blk_grown (g := gb161) (o := .cells #[.string t166, .string t167, .string t168] 41 (0, 0)) (by (with_reducible repeat (first | refine blk_drewN ?_ _ | refine blk_drew ?_ | refine blk_alloc ?_ _)); refine blk_put (cs := #[.string t166, .string t167, .string (⟨#[]⟩ : ByteArray)]) ?_ 2 _ rfl; (with_reducible repeat (first | refine blk_drewN ?_ _ | refine blk_drew ?_ | refine blk_alloc ?_ _)); refine blk_put (cs := #[.string t166, .string (⟨#[]⟩ : ByteArray), .string (⟨#[]⟩ : ByteArray)]) ?_ 1 _ rfl; (with_reducible repeat (first | refine blk_drewN ?_ _ | refine blk_drew ?_ | refine blk_alloc ?_ _)); refine blk_put (cs := #[.string (⟨#[]⟩ : ByteArray), .string (⟨#[]⟩ : ByteArray), .string (⟨#[]⟩ : ByteArray)]) ?_ 0 _ rfl; (with_reducible repeat (first | refine blk_drewN ?_ _ | refine blk_drew ?_ | refine blk_alloc ?_ _)); exact BK161.out) hg (Kd.R_away HO_132000.out (fun _ hk => hk.2))); have n4_ := Aside0.mk (hb); have n5_ := Aside0.mk ((show Kd.C Kd.string w87 Ao78 y162.length y162 from by rw [Ny162.out]; exact Kd.C_take (m := (x10_4 : Int).toNat) ((Kd.Q_reads' (Kd.Q_over' (by (with_reducible repeat (first | apply Kd.Q_alloc | apply Kd.Q_drewN | apply Kd.Q_drew)); exact (Kd.Q_mono (Kd.Q_far (p := ⟨gb161, 2, none⟩) (Kd.Q_far (p := ⟨gb161, 1, none⟩) (Kd.Q_far (p := ⟨gb161, 0, none⟩) (Kd.Q_types HO_4.out BK161.out (by decide)) (fun _ hk => hk.2) (.string t166)) (fun _ hk => hk.2) (.string t167)) (fun _ hk => hk.2) (.string t168)) (fun _ h_ => h_.1))) (Kd.R_typed (by (with_reducible repeat (first | apply Kd.R_alloc | apply Kd.R_drewN | apply Kd.R_drew)); exact (Kd.R_mono (Kd.R_far (p := ⟨gb161, 2, none⟩) (Kd.R_far (p := ⟨gb161, 1, none⟩) (Kd.R_far (p := ⟨gb161, 0, none⟩) (Kd.R_mono HO_132000.out (fun k_ hk => (⟨hk, hk.2⟩ : _ ∧ k_ ≠ gb161))) (fun _ hk => hk.2) (.string t166)) (fun _ hk => hk.2) (.string t167)) (fun _ hk => hk.2) (.string t168)) (fun _ h_ => h_.1)))) (by decide) hg)).2.2) KL80.out)); have n6_ := Aside0.mk (ho); clear HO_4; clear BK125; clear BK131; clear BK161; clear HB; clear HR165; clear HO_132000; have HO_4 := n0_; have BK125 := n1_; have BK131 := n2_; have BK161 := n3_; have HB := n4_; have HR165 := n5_; have HO172 := n6_; clear n0_ n1_ n2_ n3_ n4_ n5_ n6_; clear ho hb hg hat; obtain ⟨Ao88, co88, eo88⟩ := Kd.R_slice HO172.out; subst eo88; have hcz89_0 : w87.cell? ⟨gb131, 0, none⟩ = some (u132000) := (blk_cell BK131.out 0).trans rfl; have hcz89_1 : w87.cell? ⟨gb131, 1, none⟩ = some (.string x132001_7) := (blk_cell BK131.out 1).trans rfl; have hcz89_2 : w87.cell? ⟨gb131, 2, none⟩ = some (.bool (decide (t130 < 0))) := (blk_cell BK131.out 2).trans rfl; have hfz89_0 := blk_frozen BK131.out 0; have hfz89_1 := blk_frozen BK131.out 1; have hfz89_2 := blk_frozen BK131.out 2) | ((with_reducible refine gate_store (t := 22) (p := 80) rfl ?_); refine store_event (t := 22) (p := 80) (v := ?vo_w90) (w1 := (w87.setCell ⟨gb131, 0, none⟩ (.slice Ao88 y170.length co88))) ?hg ?ho ?hn ?hr ?_; (case ho => rfl); (case hg => rfl); (case hn => rfl); (case hr => first | (go_simp; done) | (go_simp; rfl)); intro w90 hw; have n0_ : Aside0 (Kd.Q Kd.string 9 w90 w.heap.size (fun _ => True) (.slice Ao78 x4_2.length co78) x4_2) := ⟨(by rw [hw]; exact (by (with_reducible repeat (first | apply Kd.Q_alloc | apply Kd.Q_drewN | apply Kd.Q_drew)); exact Kd.Q_mono (Kd.Q_far (p := ⟨gb131, 0, none⟩) (Kd.Q_types HO_4.out BK131.out (by decide)) (fun _ hk => hk.2) (.slice Ao88 y170.length co88)) (fun _ hk => trivial)))⟩; have n1_ : Aside0 (Kd.R k41 41 w90 w.heap.size (fun k_ => k_ ≠ gb161) (.slice Ao88 y170.length co88) y170) := ⟨(by rw [hw]; exact (by (with_reducible repeat (first | apply Kd.R_alloc | apply Kd.R_drewN | apply Kd.R_drew)); exact Kd.R_mono (Kd.R_far (p := ⟨gb131, 0, none⟩) (Kd.R_types HO172.out BK131.out (by decide)) (fun _ hk => hk.2) (.slice Ao88 y170.length co88)) (fun _ hk => hk.1)))⟩; have n2_ : Aside0 (w90.heap[gb125]? = some (.cells #[.slice none 0 0, .string (⟨#[]⟩ : ByteArray), .bool false] 24 (0, 0))) := ⟨(by rw [hw]; exact (bk BK125.out))⟩; have n3_ : Aside0 (w90.heap[gb131]? = some (.cells #[.slice Ao88 y170.length co88, .string x132001_7, .bool (decide (t130 < 0))] 24 (0, 0))) := ⟨(by rw [hw]; exact (by (with_reducible repeat (first | refine blk_drewN ?_ _ | refine blk_drew ?_ | refine blk_alloc ?_ _)); refine blk_put (cs := #[u132000, .string x132001_7, .bool (decide (t130 < 0))]) ?_ 0 _ rfl; (with_reducible repeat (first | refine blk_drewN ?_ _ | refine blk_drew ?_ | refine blk_alloc ?_ _)); exact BK131.out))⟩; have n4_ : Aside0 (w90.heap[gb161]? = some (.cells #[.string t166, .string t167, .string t168] 41 (0, 0))) := ⟨(by rw [hw]; exact (bk BK161.out))⟩; have n5_ : Aside0 (Below w.heap.size w w90) := ⟨(by rw [hw]; exact bl)⟩; clear hw; clear HO_4; clear HO172; clear BK125; clear BK131; clear BK161; clear HB; have HO_4 := n0_; have HO172 := n1_; have BK125 := n2_; have BK131 := n3_; have BK161 := n4_; have HB := n5_; clear n0_ n1_ n2_ n3_ n4_ n5_; have q91 : (x10_4 : Int) ≤ ((x4_2.length : Int) : Int) := od; obtain ⟨i091, hi091, _, hsz91, _⟩ := info_parts info9; have hcut91 := cut_from (P := Tryd.prog) 37 9 .i64 Tryd.underlying37 hi091 1 hsz91 Ao78 x4_2.length co78 x10_4 (od) q91; have hr91 := Kd.Q_drop (k := (x10_4 : Int).toNat) HO_4.out (by omega); obtain ⟨A91, hA91⟩ : ∃ A1, A1 = (if co78 = (x10_4 : Int).toNat then Ao78 else (Ao78 : Option Addr).map (·.add ((x10_4 : Int).toNat * 1))) := ⟨_, rfl⟩; obtain ⟨c91, hc91⟩ : ∃ c1, c1 = co78 - (x10_4 : Int).toNat := ⟨_, rfl⟩; have hy91 : y173.length = x4_2.length - (x10_4 : Int).toNat := (by rw [Ny173.out, List.length_drop]); rw [← Ny173.out] at hr91; rw [← hy91, ← hA91, ← hc91] at hcut91; replace hr91 : Kd.Q Kd.string 9 w90 w.heap.size (fun _ => True) (.slice A91 y173.length c91) y173 := (by rw [hA91, hc91, hy91]; exact hr91); have HE91 : Aside0 ((Value.slice A91 y173.length c91).ownBlock = (.slice Ao78 x4_2.length co78 : Value).ownBlock) := ⟨by rw [hA91]; split <;> (cases (Ao78 : Option Addr) <;> first | rfl | (simp only [Option.map_some, Value.ownBlock, add_block]; done))⟩; clear hy91 hi091 hsz91 HO_4 hA91 hc91; have HO175 := Aside0.mk hr91; clear hr91; replace q91 := eq_true q91))
                go_roundg k4
                case measure => have := HJ7.out; have := HK2.out; have := HJ32.out; have := HK4.out; omega
                case rel => exact ⟨(y173), (true), (y170), (.slice Ao88 y170.length co88), (by first | rfl | (simp; done) | (simp [*]; done)), H', ⟨by have := HJ7.out; have := HK2.out; have := HJ32.out; have := HK4.out; omega⟩, ⟨by (with_reducible repeat (first | apply Kd.Q_alloc | apply Kd.Q_drewN | apply Kd.Q_drew)); exact HO175.out⟩, ⟨by (with_reducible repeat (first | apply Kd.R_alloc | apply Kd.R_drewN | apply Kd.R_drew)); exact Kd.R_mono HO172.out (fun _ hk => trivial)⟩, ⟨by (with_reducible repeat (first | refine blk_drewN ?_ _ | refine blk_drew ?_ | refine blk_alloc ?_ _)); exact BK125.out⟩, ⟨by (with_reducible repeat (first | refine blk_drewN ?_ _ | refine blk_drew ?_ | refine blk_alloc ?_ _)); exact BK131.out⟩, ⟨by repeat (first | (with_reducible first | exact HB.out | apply below_alloc | apply pw_below_drewN | apply below_drew1 | refine below_set ?_ GE125.out | refine below_set ?_ GE131.out | refine below_set ?_ GE161.out) | exact HB.out)⟩⟩
               ·rw [if_neg c76] at H
                exact absurd H (by simp)
              ·replace c75 := Bool.eq_false_iff.mpr c75
               subst c75
               have H1 : (head_Parse.l1 k4 (x4_2.drop (x10_4 : Int).toNat) false x132000_2 x132001_7 (decide (t130 < 0))) = some (r1, r2, r3, r4) := by rw [if_neg (show ¬ (false = true) by decide)] at H; exact H
               clear H
               have H := H1
               clear H1
               have c92b0 := eq_true (od : x10_4 ≤ (x4_2.length : Int))
               obtain ⟨y176, hy176⟩ : ∃ y_ : List ByteArray, y_ = (x4_2.drop (x10_4 : Int).toNat) := ⟨_, rfl⟩
               replace H : (head_Parse.l1 k4 y176 false x132000_2 x132001_7 (decide (t130 < 0))) = some (r1, r2, r3, r4) := by first | (rw [hy176]; with_reducible exact H) | (have H2_ := (Option.bind_some _ _).symm.trans H; rw [hy176]; with_reducible exact H2_) | (have H2_ := (Option.bind_some _ _).symm.trans H; with_reducible exact H2_) | with_reducible exact H | (rw [hy176]; exact H) | exact H
               have Ny176 := Aside0.mk hy176
               clear hy176
               have H' := Aside0.mk H
               clear H
               obtain ⟨Ao93, co93, eo93, _⟩ := Kd.Q_slice HO_4.out
               subst eo93
               go_wp2_with (first | ((with_reducible refine gate_dst (N := 11) rfl ?_); (try (refine gate_guard (by rfl) ?_; dsimp only)); refine box_event ?hg (N := 11) ?hd (cs := #[.string (⟨#[]⟩ : ByteArray), .string (⟨#[]⟩ : ByteArray), .string (⟨#[]⟩ : ByteArray)]) (t := 41) ?hr ?_; (case hd => rfl); (case hg => rfl); (case hr => first | (go_simp; done) | (go_simp; rfl)); intro gb161 hg w94 hbox hb; have n0_ := Aside0.mk (Kd.Q_below (by (with_reducible repeat (first | apply Kd.Q_alloc | apply Kd.Q_drewN | apply Kd.Q_drew)); exact HO_4.out) hb); have n1_ := Aside0.mk (Kd.R_below (Kd.R_elderB (kr HO_132000.out) gb161 (Nat.le_of_eq hg.symm)) hb); have n2_ := Aside0.mk (kb BK125.out hb); have n3_ := Aside0.mk (kb BK131.out hb); have n4_ := Aside0.mk (below_step bl hb); have n5_ := Aside0.mk (hbox); have n6_ := Aside0.mk ((by rw [hg]; exact (below_size bl) : w.heap.size ≤ gb161)); have n7_ := Aside0.mk ((by rw [hg]; exact (below_size bl) : w.heap.size ≤ gb161)); have n8_ := Aside0.mk ((by rw [hg]; exact Nat.ne_of_lt (blk_lt (bk BK125.out)) : gb125 ≠ gb161)); have n9_ := Aside0.mk ((by rw [hg]; exact Nat.ne_of_gt (blk_lt (bk BK125.out)) : gb161 ≠ gb125)); have n10_ := Aside0.mk ((by rw [hg]; exact Nat.ne_of_lt (blk_lt (bk BK131.out)) : gb131 ≠ gb161)); have n11_ := Aside0.mk ((by rw [hg]; exact Nat.ne_of_gt (blk_lt (bk BK131.out)) : gb161 ≠ gb131)); clear HO_4; clear HO_132000; clear BK125; clear BK131; clear HB; have HO_4 := n0_; have HO_132000 := n1_; have BK125 := n2_; have BK131 := n3_; have HB := n4_; have BK161 := n5_; have GW161 := n6_; have GE161 := n7_; have NB125_161 := n8_; have NB161_125 := n9_; have NB131_161 := n10_; have NB161_131 := n11_; clear n0_ n1_ n2_ n3_ n4_ n5_ n6_ n7_ n8_ n9_ n10_ n11_; clear hb hbox hg; have q95 : (x10_4 : Int) ≤ ((x4_2.length : Int) : Int) := od; obtain ⟨i095, hi095, _, hsz95, _⟩ := info_parts info9; have hroom95 : x4_2.length ≤ co93 := (Kd.Q_reads' HO_4.out).2.1; have hC95 : Kd.C Kd.string _ Ao93 x4_2.length x4_2 := (Kd.Q_reads' HO_4.out).2.2; have hcut95 := cut_to (P := Tryd.prog) 37 9 .i64 Tryd.underlying37 hi095 Ao93 x4_2.length co93 x10_4 (od) q95 hroom95; have hr95 := Kd.C_take (m := (x10_4 : Int).toNat) hC95 (by omega); have hy95 : y162.length = (x10_4 : Int).toNat := (by rw [Ny162.out, List.length_take]; omega); rw [← Ny162.out] at hr95; rw [← hy95] at hcut95; have HR165 := Aside0.mk hr95; have HC165 := Aside0.mk (show y162.length ≤ co93 from by omega); clear hr95 hC95 hroom95 hi095 hsz95; have KY95 := Aside0.mk hy95; clear hy95; have KL95 := Aside0.mk (show (x10_4 : Int).toNat ≤ x4_2.length from by omega); replace q95 := eq_true q95) | ((with_reducible refine gate_callee (f := 42) rfl ?_); refine goesL_ (some 71) rfl rfl Tryd.func42 (by kernel_rfl) rfl #[.slice Ao93 y162.length co93] rfl ml ?_; (with_reducible refine (head_field.calls k4 _ _ y162 t166 t167 t168 false _ ?side1 ?side2 ?side3 A74.out).mono ?_); (case side1 => repeat (first | exact (by repeat (first | (with_reducible exact HR165.out) | (with_reducible refine Kd.C_alloc ?_ _) | (with_reducible refine Kd.C_drewN ?_ _) | (with_reducible refine Kd.C_drew ?_) | exact HR165.out)) | (with_reducible refine Kd.C_alloc ?_ _) | (with_reducible refine Kd.C_drewN ?_ _) | (with_reducible refine Kd.C_drew ?_))); (case side2 => exact HC165.out); (case side3 => exact Glob.below HG.out bl); rintro e w96 ⟨rfl, hb⟩; refine ⟨_, rfl, ?_⟩; have n0_ := Aside0.mk (Kd.Q_below (by (with_reducible repeat (first | apply Kd.Q_alloc | apply Kd.Q_drewN | apply Kd.Q_drew)); exact HO_4.out) hb); have n1_ := Aside0.mk (Kd.R_below (kr HO_132000.out) hb); have n2_ := Aside0.mk (kb BK125.out hb); have n3_ := Aside0.mk (kb BK131.out hb); have n4_ := Aside0.mk (kb BK161.out hb); have n5_ := Aside0.mk (Kd.C_below (by repeat (first | (with_reducible exact HR165.out) | (with_reducible refine Kd.C_alloc ?_ _) | (with_reducible refine Kd.C_drewN ?_ _) | (with_reducible refine Kd.C_drew ?_) | exact HR165.out)) hb); have n6_ := Aside0.mk (below_step bl hb); clear HO_4; clear HO_132000; clear BK125; clear BK131; clear BK161; clear HR165; clear HB; have HO_4 := n0_; have HO_132000 := n1_; have BK125 := n2_; have BK131 := n3_; have BK161 := n4_; have HR165 := n5_; have HB := n6_; clear n0_ n1_ n2_ n3_ n4_ n5_ n6_; (try clear hb); (try clear hb2); (try clear hk); (try clear hi); have hnb97 := NB161_125.out; have hnc97 := NB125_161.out; have hnb98 := NB161_131.out; have hnc98 := NB131_161.out; have hcz99_0 : w96.cell? ⟨gb161, 0, none⟩ = some (.string (⟨#[]⟩ : ByteArray)) := (blk_cell BK161.out 0).trans rfl; have hcz99_1 : w96.cell? ⟨gb161, 1, none⟩ = some (.string (⟨#[]⟩ : ByteArray)) := (blk_cell BK161.out 1).trans rfl; have hcz99_2 : w96.cell? ⟨gb161, 2, none⟩ = some (.string (⟨#[]⟩ : ByteArray)) := (blk_cell BK161.out 2).trans rfl; have hfz99_0 := blk_frozen BK161.out 0; have hfz99_1 := blk_frozen BK161.out 1; have hfz99_2 := blk_frozen BK161.out 2) | ((with_reducible refine gate_store (t := 41) (p := 11) rfl ?_); refine store_event (t := 41) (p := 11) (v := ?vo_w100) (w1 := (((w96.setCell ⟨gb161, 0, none⟩ (.string t166)).setCell ⟨gb161, 1, none⟩ (.string t167)).setCell ⟨gb161, 2, none⟩ (.string t168))) ?hg ?ho ?hn ?hr ?_; (case ho => rfl); (case hg => rfl); (case hn => rfl); (case hr => first | (go_simp; done) | (go_simp; rfl)); intro w100 hw; have n0_ : Aside0 (Kd.Q Kd.string 9 w100 w.heap.size (fun _ => True) (.slice Ao93 x4_2.length co93) x4_2) := ⟨(by rw [hw]; exact (by (with_reducible repeat (first | apply Kd.Q_alloc | apply Kd.Q_drewN | apply Kd.Q_drew)); exact Kd.Q_mono (Kd.Q_far (p := ⟨gb161, 2, none⟩) (Kd.Q_far (p := ⟨gb161, 1, none⟩) (Kd.Q_far (p := ⟨gb161, 0, none⟩) (Kd.Q_types HO_4.out BK161.out (by decide)) (fun _ hk => hk.2) (.string t166)) (fun _ hk => hk.2) (.string t167)) (fun _ hk => hk.2) (.string t168)) (fun _ hk => trivial)))⟩; have n1_ : Aside0 (Kd.R k41 41 w100 w.heap.size (fun k_ => k_ ≠ gb161) u132000 x132000_2) := ⟨(by rw [hw]; exact (by (with_reducible repeat (first | apply Kd.R_alloc | apply Kd.R_drewN | apply Kd.R_drew)); exact Kd.R_mono (Kd.R_far (p := ⟨gb161, 2, none⟩) (Kd.R_far (p := ⟨gb161, 1, none⟩) (Kd.R_far (p := ⟨gb161, 0, none⟩) (Kd.R_mono HO_132000.out (fun k_ hk => (⟨hk, hk.2⟩ : _ ∧ k_ ≠ gb161))) (fun _ hk => hk.2) (.string t166)) (fun _ hk => hk.2) (.string t167)) (fun _ hk => hk.2) (.string t168)) (fun _ hk => hk.1.2)))⟩; have n2_ : Aside0 (w100.heap[gb125]? = some (.cells #[.slice none 0 0, .string (⟨#[]⟩ : ByteArray), .bool false] 24 (0, 0))) := ⟨(by rw [hw]; exact (bk BK125.out))⟩; have n3_ : Aside0 (w100.heap[gb131]? = some (.cells #[u132000, .string x132001_7, .bool (decide (t130 < 0))] 24 (0, 0))) := ⟨(by rw [hw]; exact (bk BK131.out))⟩; have n4_ : Aside0 (w100.heap[gb161]? = some (.cells #[.string t166, .string t167, .string t168] 41 (0, 0))) := ⟨(by rw [hw]; exact (by (with_reducible repeat (first | refine blk_drewN ?_ _ | refine blk_drew ?_ | refine blk_alloc ?_ _)); refine blk_put (cs := #[.string t166, .string t167, .string (⟨#[]⟩ : ByteArray)]) ?_ 2 _ rfl; (with_reducible repeat (first | refine blk_drewN ?_ _ | refine blk_drew ?_ | refine blk_alloc ?_ _)); refine blk_put (cs := #[.string t166, .string (⟨#[]⟩ : ByteArray), .string (⟨#[]⟩ : ByteArray)]) ?_ 1 _ rfl; (with_reducible repeat (first | refine blk_drewN ?_ _ | refine blk_drew ?_ | refine blk_alloc ?_ _)); refine blk_put (cs := #[.string (⟨#[]⟩ : ByteArray), .string (⟨#[]⟩ : ByteArray), .string (⟨#[]⟩ : ByteArray)]) ?_ 0 _ rfl; (with_reducible repeat (first | refine blk_drewN ?_ _ | refine blk_drew ?_ | refine blk_alloc ?_ _)); exact BK161.out))⟩; have n5_ : Aside0 (Below w.heap.size w w100) := ⟨(by rw [hw]; exact bl)⟩; clear hw; clear HO_4; clear HO_132000; clear BK125; clear BK131; clear BK161; clear HB; have HO_4 := n0_; have HO_132000 := n1_; have BK125 := n2_; have BK131 := n3_; have BK161 := n4_; have HB := n5_; clear n0_ n1_ n2_ n3_ n4_ n5_; have q101 : (x10_4 : Int) ≤ ((x4_2.length : Int) : Int) := od; obtain ⟨i0101, hi0101, _, hsz101, _⟩ := info_parts info9; have hcut101 := cut_from (P := Tryd.prog) 37 9 .i64 Tryd.underlying37 hi0101 1 hsz101 Ao93 x4_2.length co93 x10_4 (od) q101; have hr101 := Kd.Q_drop (k := (x10_4 : Int).toNat) HO_4.out (by omega); obtain ⟨A101, hA101⟩ : ∃ A1, A1 = (if co93 = (x10_4 : Int).toNat then Ao93 else (Ao93 : Option Addr).map (·.add ((x10_4 : Int).toNat * 1))) := ⟨_, rfl⟩; obtain ⟨c101, hc101⟩ : ∃ c1, c1 = co93 - (x10_4 : Int).toNat := ⟨_, rfl⟩; have hy101 : y176.length = x4_2.length - (x10_4 : Int).toNat := (by rw [Ny176.out, List.length_drop]); rw [← Ny176.out] at hr101; rw [← hy101, ← hA101, ← hc101] at hcut101; replace hr101 : Kd.Q Kd.string 9 w100 w.heap.size (fun _ => True) (.slice A101 y176.length c101) y176 := (by rw [hA101, hc101, hy101]; exact hr101); have HE101 : Aside0 ((Value.slice A101 y176.length c101).ownBlock = (.slice Ao93 x4_2.length co93 : Value).ownBlock) := ⟨by rw [hA101]; split <;> (cases (Ao93 : Option Addr) <;> first | rfl | (simp only [Option.map_some, Value.ownBlock, add_block]; done))⟩; clear hy101 hi0101 hsz101 HO_4 hA101 hc101; have HO178 := Aside0.mk hr101; clear hr101; replace q101 := eq_true q101))
               go_roundg k4
               case measure => have := HJ7.out; have := HK2.out; have := HJ32.out; have := HK4.out; omega
               case rel => exact ⟨(y176), (false), (x132000_2), (u132000), (by first | rfl | (simp; done) | (simp [*]; done)), H', ⟨by have := HJ7.out; have := HK2.out; have := HJ32.out; have := HK4.out; omega⟩, ⟨by (with_reducible repeat (first | apply Kd.Q_alloc | apply Kd.Q_drewN | apply Kd.Q_drew)); exact HO178.out⟩, ⟨by (with_reducible repeat (first | apply Kd.R_alloc | apply Kd.R_drewN | apply Kd.R_drew)); exact Kd.R_mono HO_132000.out (fun _ hk => trivial)⟩, ⟨by (with_reducible repeat (first | refine blk_drewN ?_ _ | refine blk_drew ?_ | refine blk_alloc ?_ _)); exact BK125.out⟩, ⟨by (with_reducible repeat (first | refine blk_drewN ?_ _ | refine blk_drew ?_ | refine blk_alloc ?_ _)); exact BK131.out⟩, ⟨by repeat (first | (with_reducible first | exact HB.out | apply below_alloc | apply pw_below_drewN | apply below_drew1 | refine below_set ?_ GE125.out | refine below_set ?_ GE131.out | refine below_set ?_ GE161.out) | exact HB.out)⟩⟩
             ·rw [if_neg c73] at H
              exact absurd H (by simp)
            ·rw [if_neg c72] at H
             exact absurd H (by simp)
        ·replace c36 := Bool.eq_false_iff.mpr c36
         subst c36
         have H1 : (if x5_2 = true then (some (x132000_2, x132001_7, (decide (t130 < 0)), 0)) else (some (([] : List (S41)), (⟨#[]⟩ : ByteArray), false, 5))) = some (r1, r2, r3, r4) := by rw [if_neg (show ¬ (false = true) by decide)] at H; exact H
         clear H
         have H := H1
         clear H1
         by_cases c102 : x5_2 = true
         ·subst c102
          have H1 : (some (x132000_2, x132001_7, (decide (t130 < 0)), 0)) = some (r1, r2, r3, r4) := by rw [if_pos rfl] at H; exact H
          clear H
          have H := H1
          clear H1
          simp only [Option.some.injEq, Prod.mk.injEq] at H
          obtain ⟨rfl, rfl, rfl, rfl⟩ := H
          have hnb103 := NB131_125.out
          have hnc103 := NB125_131.out
          have hcz104_0 : wc.cell? ⟨gb131, 0, none⟩ = some (u132000) := (blk_cell BK131.out 0).trans rfl
          have hcz104_1 : wc.cell? ⟨gb131, 1, none⟩ = some (.string x132001_7) := (blk_cell BK131.out 1).trans rfl
          have hcz104_2 : wc.cell? ⟨gb131, 2, none⟩ = some (.bool (decide (t130 < 0))) := (blk_cell BK131.out 2).trans rfl
          have hfz104_0 := blk_frozen BK131.out 0
          have hfz104_1 := blk_frozen BK131.out 1
          have hfz104_2 := blk_frozen BK131.out 2
          obtain ⟨Ao105, co105, eo105⟩ := Kd.R_slice HO_132000.out
          subst eo105
          have hcz106_0 : wc.cell? ⟨gb125, 0, none⟩ = some (.slice none 0 0) := (blk_cell BK125.out 0).trans rfl
          have hcz106_1 : wc.cell? ⟨gb125, 1, none⟩ = some (.string (⟨#[]⟩ : ByteArray)) := (blk_cell BK125.out 1).trans rfl
          have hcz106_2 : wc.cell? ⟨gb125, 2, none⟩ = some (.bool false) := (blk_cell BK125.out 2).trans rfl
          have hfz106_0 := blk_frozen BK125.out 0
          have hfz106_1 := blk_frozen BK125.out 1
          have hfz106_2 := blk_frozen BK125.out 2
          go_wp2_with (first | ((with_reducible refine gate_store (t := 24) (p := 2) rfl ?_); refine store_event (t := 24) (p := 2) (v := ?vo_w107) (w1 := (((wc.setCell ⟨gb125, 0, none⟩ (.slice Ao105 x132000_2.length co105)).setCell ⟨gb125, 1, none⟩ (.string x132001_7)).setCell ⟨gb125, 2, none⟩ (.bool (decide (t130 < 0))))) ?hg ?ho ?hn ?hr ?_; (case ho => rfl); (case hg => rfl); (case hn => rfl); (case hr => first | (go_simp; done) | (go_simp; rfl)); intro w107 hw; have n0_ : Aside0 (Kd.Q Kd.string 9 w107 w.heap.size (fun _ => True) u4 x4_2) := ⟨(by rw [hw]; exact (by (with_reducible repeat (first | apply Kd.Q_alloc | apply Kd.Q_drewN | apply Kd.Q_drew)); exact Kd.Q_mono (Kd.Q_far (p := ⟨gb125, 2, none⟩) (Kd.Q_far (p := ⟨gb125, 1, none⟩) (Kd.Q_far (p := ⟨gb125, 0, none⟩) (Kd.Q_types HO_4.out BK125.out (by decide)) (fun _ hk => hk.2) (.slice Ao105 x132000_2.length co105)) (fun _ hk => hk.2) (.string x132001_7)) (fun _ hk => hk.2) (.bool (decide (t130 < 0)))) (fun _ hk => trivial)))⟩; have n1_ : Aside0 (Kd.R k41 41 w107 w.heap.size (fun _ => True) (.slice Ao105 x132000_2.length co105) x132000_2) := ⟨(by rw [hw]; exact (by (with_reducible repeat (first | apply Kd.R_alloc | apply Kd.R_drewN | apply Kd.R_drew)); exact Kd.R_mono (Kd.R_far (p := ⟨gb125, 2, none⟩) (Kd.R_far (p := ⟨gb125, 1, none⟩) (Kd.R_far (p := ⟨gb125, 0, none⟩) (Kd.R_types HO_132000.out BK125.out (by decide)) (fun _ hk => hk.2) (.slice Ao105 x132000_2.length co105)) (fun _ hk => hk.2) (.string x132001_7)) (fun _ hk => hk.2) (.bool (decide (t130 < 0)))) (fun _ hk => trivial)))⟩; have n2_ : Aside0 (w107.heap[gb125]? = some (.cells #[.slice Ao105 x132000_2.length co105, .string x132001_7, .bool (decide (t130 < 0))] 24 (0, 0))) := ⟨(by rw [hw]; exact (by (with_reducible repeat (first | refine blk_drewN ?_ _ | refine blk_drew ?_ | refine blk_alloc ?_ _)); refine blk_put (cs := #[.slice Ao105 x132000_2.length co105, .string x132001_7, .bool false]) ?_ 2 _ rfl; (with_reducible repeat (first | refine blk_drewN ?_ _ | refine blk_drew ?_ | refine blk_alloc ?_ _)); refine blk_put (cs := #[.slice Ao105 x132000_2.length co105, .string (⟨#[]⟩ : ByteArray), .bool false]) ?_ 1 _ rfl; (with_reducible repeat (first | refine blk_drewN ?_ _ | refine blk_drew ?_ | refine blk_alloc ?_ _)); refine blk_put (cs := #[.slice none 0 0, .string (⟨#[]⟩ : ByteArray), .bool false]) ?_ 0 _ rfl; (with_reducible repeat (first | refine blk_drewN ?_ _ | refine blk_drew ?_ | refine blk_alloc ?_ _)); exact BK125.out))⟩; have n3_ : Aside0 (w107.heap[gb131]? = some (.cells #[.slice Ao105 x132000_2.length co105, .string x132001_7, .bool (decide (t130 < 0))] 24 (0, 0))) := ⟨(by rw [hw]; exact (bk BK131.out))⟩; have n4_ : Aside0 (Below w.heap.size w w107) := ⟨(by rw [hw]; exact bl)⟩; clear hw; clear HO_4; clear HO_132000; clear BK125; clear BK131; clear HB; have HO_4 := n0_; have HO_132000 := n1_; have BK125 := n2_; have BK131 := n3_; have HB := n4_; clear n0_ n1_ n2_ n3_ n4_))
          refine bodyPost_ret (results_ct rfl _ _ gb125 24 #[.slice Ao105 x132000_2.length co105, .string x132001_7, .bool (decide (t130 < 0))] (0, 0) _ rfl (bk BK125.out) Tryd.underlying24 rfl (by kernel_rfl)) rfl ?_
          exact ⟨_, by first | rfl | (simp [errW_none, errW_some] <;> rfl) | (simp [*, errW_none, errW_some] <;> rfl), by (with_reducible repeat (first | apply Kd.R_alloc | apply Kd.R_drewN | apply Kd.R_drew)); exact HO_132000.out, by repeat (first | (with_reducible first | exact HB.out | apply below_alloc | apply pw_below_drewN | apply below_drew1 | refine below_set ?_ GE125.out | refine below_set ?_ GE131.out) | exact HB.out)⟩
         ·replace c102 := Bool.eq_false_iff.mpr c102
          subst c102
          have H1 : (some (([] : List (S41)), (⟨#[]⟩ : ByteArray), false, 5)) = some (r1, r2, r3, r4) := by rw [if_neg (show ¬ (false = true) by decide)] at H; exact H
          clear H
          have H := H1
          clear H1
          simp only [Option.some.injEq, Prod.mk.injEq] at H
          obtain ⟨rfl, rfl, rfl, rfl⟩ := H
          have hnb108 := NB125_131.out
          have hnc108 := NB131_125.out
          have hcz109_0 : wc.cell? ⟨gb125, 0, none⟩ = some (.slice none 0 0) := (blk_cell BK125.out 0).trans rfl
          have hcz109_1 : wc.cell? ⟨gb125, 1, none⟩ = some (.string (⟨#[]⟩ : ByteArray)) := (blk_cell BK125.out 1).trans rfl
          have hcz109_2 : wc.cell? ⟨gb125, 2, none⟩ = some (.bool false) := (blk_cell BK125.out 2).trans rfl
          have hfz109_0 := blk_frozen BK125.out 0
          have hfz109_1 := blk_frozen BK125.out 1
          have hfz109_2 := blk_frozen BK125.out 2
          go_wp2_with (first | ((with_reducible refine gate_store (t := 24) (p := 2) rfl ?_); refine store_event (t := 24) (p := 2) (v := ?vo_w110) (w1 := (((wc.setCell ⟨gb125, 0, none⟩ (.slice none 0 0)).setCell ⟨gb125, 1, none⟩ (.string (⟨#[]⟩ : ByteArray))).setCell ⟨gb125, 2, none⟩ (.bool false))) ?hg ?ho ?hn ?hr ?_; (case ho => rfl); (case hg => rfl); (case hn => rfl); (case hr => first | (go_simp; done) | (go_simp; rfl)); intro w110 hw; have n0_ : Aside0 (Kd.Q Kd.string 9 w110 w.heap.size (fun _ => True) u4 x4_2) := ⟨(by rw [hw]; exact (by (with_reducible repeat (first | apply Kd.Q_alloc | apply Kd.Q_drewN | apply Kd.Q_drew)); exact Kd.Q_mono (Kd.Q_far (p := ⟨gb125, 2, none⟩) (Kd.Q_far (p := ⟨gb125, 1, none⟩) (Kd.Q_far (p := ⟨gb125, 0, none⟩) (Kd.Q_types HO_4.out BK125.out (by decide)) (fun _ hk => hk.2) (.slice none 0 0)) (fun _ hk => hk.2) (.string (⟨#[]⟩ : ByteArray))) (fun _ hk => hk.2) (.bool false)) (fun _ hk => trivial)))⟩; have n1_ : Aside0 (Kd.R k41 41 w110 w.heap.size (fun _ => True) u132000 x132000_2) := ⟨(by rw [hw]; exact (by (with_reducible repeat (first | apply Kd.R_alloc | apply Kd.R_drewN | apply Kd.R_drew)); exact Kd.R_mono (Kd.R_far (p := ⟨gb125, 2, none⟩) (Kd.R_far (p := ⟨gb125, 1, none⟩) (Kd.R_far (p := ⟨gb125, 0, none⟩) (Kd.R_types HO_132000.out BK125.out (by decide)) (fun _ hk => hk.2) (.slice none 0 0)) (fun _ hk => hk.2) (.string (⟨#[]⟩ : ByteArray))) (fun _ hk => hk.2) (.bool false)) (fun _ hk => trivial)))⟩; have n2_ : Aside0 (w110.heap[gb125]? = some (.cells #[.slice none 0 0, .string (⟨#[]⟩ : ByteArray), .bool false] 24 (0, 0))) := ⟨(by rw [hw]; exact (by (with_reducible repeat (first | refine blk_drewN ?_ _ | refine blk_drew ?_ | refine blk_alloc ?_ _)); refine blk_put (cs := #[.slice none 0 0, .string (⟨#[]⟩ : ByteArray), .bool false]) ?_ 2 _ rfl; (with_reducible repeat (first | refine blk_drewN ?_ _ | refine blk_drew ?_ | refine blk_alloc ?_ _)); refine blk_put (cs := #[.slice none 0 0, .string (⟨#[]⟩ : ByteArray), .bool false]) ?_ 1 _ rfl; (with_reducible repeat (first | refine blk_drewN ?_ _ | refine blk_drew ?_ | refine blk_alloc ?_ _)); refine blk_put (cs := #[.slice none 0 0, .string (⟨#[]⟩ : ByteArray), .bool false]) ?_ 0 _ rfl; (with_reducible repeat (first | refine blk_drewN ?_ _ | refine blk_drew ?_ | refine blk_alloc ?_ _)); exact BK125.out))⟩; have n3_ : Aside0 (w110.heap[gb131]? = some (.cells #[u132000, .string x132001_7, .bool (decide (t130 < 0))] 24 (0, 0))) := ⟨(by rw [hw]; exact (bk BK131.out))⟩; have n4_ : Aside0 (Below w.heap.size w w110) := ⟨(by rw [hw]; exact bl)⟩; clear hw; clear HO_4; clear HO_132000; clear BK125; clear BK131; clear HB; have HO_4 := n0_; have HO_132000 := n1_; have BK125 := n2_; have BK131 := n3_; have HB := n4_; clear n0_ n1_ n2_ n3_ n4_))
          refine bodyPost_ret (results_ct rfl _ _ gb125 24 #[.slice none 0 0, .string (⟨#[]⟩ : ByteArray), .bool false] (0, 0) _ rfl (bk BK125.out) Tryd.underlying24 rfl (by kernel_rfl)) rfl ?_
          exact ⟨_, by first | rfl | (simp [errW_none, errW_some] <;> rfl) | (simp [*, errW_none, errW_some] <;> rfl), by first | exact Kd.R_nil _ _ _ _ _ | exact Kd.N_nil _ _ _ _ _ | exact Kd.V_nil _ _ _ _ _ | exact Kd.Q_nil _ _ _ _ _ | exact Kd.S_nil _ _ _ _ _, by repeat (first | (with_reducible first | exact HB.out | apply below_alloc | apply pw_below_drewN | apply below_drew1 | refine below_set ?_ GE125.out | refine below_set ?_ GE131.out) | exact HB.out)⟩

end Go.Proofs.YtdciiahlakgikaaDoor.Q
end
section
namespace Go.Proofs.YtdciiahlakgikaaDoor.Q
open Go.RowKit Go.Proofs.YtdciiahlakgikaaDoorW.PrintWords Go.Proofs.YtdciiahlakgikaaDoorW.PrintLast Go.Proofs.YtdciiahlakgikaaDoorW.PrintMore
attribute [local go_sem] max2_int min2_int max_two min_two max_three min_three max_four min_four   -- for this text's walks alone
set_option linter.unusedVariables false
set_option linter.unusedSimpArgs false

theorem eqA41 (d : Nat) (w : World) (x0 y0 : ByteArray) (x1 y1 : ByteArray) (x2 y2 : ByteArray) :
    (Op.equalIn (d + 2) 41 (.agg #[.string x0, .string x1, .string x2]) (.agg #[.string y0, .string y1, .string y2])).run Tryd.prog w = .ok (x0.toList == y0.toList && (x1.toList == y1.toList && (x2.toList == y2.toList))) w := by
  refine eqA_of Tryd.underlying41 (by kernel_rfl) ?_
  refine eqf_cons (by rfl) (by go_simp; rfl) (by go_simp; rfl) (by go_simp) ?_
  refine eqf_cons (by rfl) (by go_simp; rfl) (by go_simp; rfl) (by go_simp) ?_
  exact eqf_last (by rfl) (by go_simp; rfl) (by go_simp; rfl) (by go_simp)
end Go.Proofs.YtdciiahlakgikaaDoor.Q
end
