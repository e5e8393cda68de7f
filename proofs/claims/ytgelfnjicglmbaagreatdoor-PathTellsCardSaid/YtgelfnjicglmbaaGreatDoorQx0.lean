/- Walks of functions. -/
import Derived.Test.YtgelfnjicglmbaaGreatDoorProg
import Derived.Below
import Derived.Deep.Draws
import Derived.Deep.AppendLies
import Derived.Maps.AppendAt
import Derived.OwnWalk
import Derived.Laws.BytesArg
import Derived.Laws.MakeOwn
import Derived.Laws.OwnMore
import Derived.Deep.OwnRows
import Derived.Tactics
import Derived.Lib.ConvBytes
import Derived.Laws.Slices
import Derived.WalkKit
import Derived.KernelRfl
import Derived.RowKit3
import Derived.Deep.LoopGhost
import Derived.Deep.QuietTactic
import Derived.BigQuiet
import Derived.WideLaws
import Derived.Deep.DeepCutAuto
import Derived.Deep.CutBlock
import Derived.Deep.RegionHeld3
import Derived.Laws.Rows
import Derived.Lib.AppendStr
import Derived.ArgAppend
import Derived.Laws.IdiomCopy
import Derived.OrdersHeld
import Derived.Laws.BitsLemmas
import Derived.RowKit
import Derived.Laws.RangeString
import Derived.Laws.RangeAny
import Derived.LoopTactic
import Derived.Lib.Hide
import Derived.IntWalk
import Derived.Test.YtgelfnjicglmbaaGreatDoorG
import Derived.Test.YtgelfnjicglmbaaGreatDoorBR
import Derived.Test.YtgelfnjicglmbaaGreatDoorRS
import Derived.Test.YtgelfnjicglmbaaGreatDoorOP
import Derived.Test.YtgelfnjicglmbaaGreatDoorKB
import Derived.Test.YtgelfnjicglmbaaGreatDoorV
set_option linter.unusedSimpArgs false
set_option linter.unusedVariables false
open Go.RowKit Go.Proofs.YtgelfnjicglmbaaGreatDoorW.PrintWords Go.Proofs.YtgelfnjicglmbaaGreatDoorW.PrintLast Go.Proofs.YtgelfnjicglmbaaGreatDoorW.PrintMore
set_option maxHeartbeats 8000000
set_option maxRecDepth 100000
attribute [local go_sem] max2_int min2_int max_two min_two max_three min_three max_four min_four
section
namespace Go.Proofs.YtgelfnjicglmbaaGreatDoor.Q



def errW : Option Int → Value
  | none => .nilIface
  | some c => .iface 0 (.int .i64 c)
theorem errW_none : errW none = .nilIface := rfl
theorem errW_some (c : Int) : errW (some c) = .iface 0 (.int .i64 c) := rfl
theorem cz {w : World} {g T : Nat} {cs : Array Value} (h : w.heap[g]? = some (.cells cs T (0, 0))) (i : Nat) (v : Value) (e : cs[i]? = some v := by rfl) : w.cell? ⟨g, i, none⟩ = some v := (blk_cell h i).trans e
theorem dr {p : Prop} (h : p := by repeat (first | exact Drawn0.refl _ | apply Drawn0.step)) : p := h
theorem ab {p q : Prop} (h : q) (k : ¬ q := by simp) : p := absurd h k
theorem kf {p : Prop} (h : p := by kernel_rfl) : p := h
theorem rf {p : Prop} (h : p := by first | rfl | (simp [bneNil]; done) | (simp [errW_none, errW_some] <;> rfl) | (simp [*, errW_none, errW_some] <;> rfl)) : p := h

theorem info5 : (Tryz.prog.info? 5).map (fun i => (i.zero, i.size, i.bytes)) = some (some (.int .u8 0), 1, 1) := by kernel_rfl
theorem info9 : (Tryz.prog.info? 9).map (fun i => (i.zero, i.size, i.bytes)) = some (some (.string ⟨#[]⟩), 1, 16) := by kernel_rfl
-- the values' own types

end Go.Proofs.YtgelfnjicglmbaaGreatDoor.Q
end
section
namespace Go.Proofs.YtgelfnjicglmbaaGreatDoor.Q

theorem eqA24 (d : Nat) (w : World) (x0 y0 : ByteArray) (x1 y1 : ByteArray) :
    (Op.equalIn (d + 2) 24 (.agg #[.string x0, .string x1]) (.agg #[.string y0, .string y1])).run Tryz.prog w = .ok (x0.toList == y0.toList && (x1.toList == y1.toList)) w := by
  refine eqA_of Tryz.underlying24 kf ?_
  refine eqf_cons (by rfl) (by go_simp; rfl) (by go_simp; rfl) (by go_simp) ?_
  exact eqf_last (by rfl) (by go_simp; rfl) (by go_simp; rfl) (by go_simp)
end Go.Proofs.YtgelfnjicglmbaaGreatDoor.Q
end
section
namespace Go.Proofs.YtgelfnjicglmbaaGreatDoor.Q

/-! ### text_Plain: function 28 (by hand) -/
def plainC (c : UInt8) : Bool := decide (32 ≤ c.toNat) && decide (c.toNat ≤ 126)
def plainB (s : ByteArray) : Bool := s.data.toList.all plainC
def text_Plain.f (a0 : ByteArray) : Option Bool := some (plainB a0)
theorem plain_step (s : ByteArray) (pos : Nat) (h : pos < s.size) : (s.data.toList.take (pos + 1)).all plainC = ((s.data.toList.take pos).all plainC && plainC (s[pos]'h)) := by
  rw [List.take_succ_eq_append_getElem (by simpa using h), List.all_append]
  simp
  rfl
theorem plain_at (s : ByteArray) (pos : Nat) (h : pos < s.size) (hb : ¬ (32 ≤ (s[pos]'h).toNat ∧ (s[pos]'h).toNat ≤ 126)) : plainB s = false := by
  unfold plainB
  rw [Bool.eq_false_iff]
  intro ha
  rw [List.all_eq_true] at ha
  have := ha (s[pos]'h) (by
    have h' : pos < s.data.toList.length := by simpa using h
    have e : s.data.toList[pos]'h' = s[pos]'h := by simp; rfl
    rw [← e]; exact List.getElem_mem h')
  simp [plainC] at this
  exact hb ⟨by omega, by omega⟩
theorem text_Plain.calls (a0 : ByteArray) (r : Bool) (w : World) (h : text_Plain.f a0 = some r) :
    Calls Tryz.prog 28 #[.string a0] w fun e w' => e = .returned (.bool r) ∧ Below w.heap.size w w' := by
  have hr := Option.some.inj h
  clear h
  subst hr
  go_enter Tryz.func28, Tryz.ntmps28
  go_wp2
  go_loopw [] (fun w' => ∃ pos : Nat, w' = w.iter a0 pos ∧ pos ≤ a0.size ∧ (a0.data.toList.take pos).all plainC = true) (fun w' => a0.size - w'.iterPos w.heap.size)
  case atStart => exact ⟨0, rfl, Nat.zero_le _, rfl⟩
  case round =>
    obtain ⟨pos, rfl, hle, hall⟩ := hrel
    have Hall := Lib.hid hall
    clear hall
    by_cases hp : pos < a0.size
    · have hnx : ∀ ty, (Instr.next (.pointer (some ⟨w.heap.size, 0, none⟩)) true ty).run Tryz.prog (w.iter a0 pos) = _ := fun ty => run_next_any w a0 pos ty hp
      by_cases ha : (a0[pos]'hp).toNat < 128
      · have hd := decode_ascii a0 pos hp ha
        rw [hd] at hnx
        clear hd
        obtain ⟨c, hc⟩ : ∃ c : Nat, c = (a0[pos]'hp).toNat := ⟨_, rfl⟩
        rw [← hc] at hnx ha
        have Hc := Lib.hid hc
        clear hc
        by_cases h1 : 126 < (c : Int)
        · have hfin : plainB a0 = false := plain_at a0 pos hp (by have := Hc.out; omega)
          have Hfin := Lib.hid hfin
          clear hfin
          have hb : decide (126 < (c : Int)) = true := decide_eq_true h1
          go_wp2
          go_ret
          rw [Hfin.out]
          exact ⟨rfl, below_alloc (Below.refl _ _) _⟩
        · have hb : decide (126 < (c : Int)) = false := decide_eq_false h1
          by_cases h2 : 32 ≤ (c : Int)
          · have hb2 : decide (32 ≤ (c : Int)) = true := decide_eq_true h2
            have hb3 : decide ((c : Int) ≤ 126) = true := decide_eq_true (by omega)
            have hs := plain_step a0 pos hp
            rw [Hall.out] at hs
            have Hs := Lib.hid hs
            clear hs
            go_wp2
            go_roundw
            case rel =>
              refine ⟨pos + 1, rfl, hp, ?_⟩
              rw [Hs.out]
              have := Hc.out
              simp [plainC]
              omega
            case measure => simp; omega
          · have hfin : plainB a0 = false := plain_at a0 pos hp (by have := Hc.out; omega)
            have Hfin := Lib.hid hfin
            clear hfin
            have hb2 : decide (32 ≤ (c : Int)) = false := decide_eq_false h2
            go_wp2
            go_ret
            rw [Hfin.out]
            exact ⟨rfl, below_alloc (Below.refl _ _) _⟩
      · have hd := decode_high a0 pos hp (by omega)
        obtain ⟨c, hc⟩ : ∃ c : Nat × Nat, c = Utf8.decode a0 pos := ⟨_, rfl⟩
        rw [← hc] at hnx hd
        obtain ⟨c, n⟩ := c
        simp only at hnx hd
        clear hc
        have hfin : plainB a0 = false := plain_at a0 pos hp (by omega)
        have Hfin := Lib.hid hfin
        clear hfin
        have hb : decide (126 < (c : Int)) = true := decide_eq_true (by omega)
        go_wp2
        go_ret
        rw [Hfin.out]
        exact ⟨rfl, below_alloc (Below.refl _ _) _⟩
    · have hnx : ∀ ty, (Instr.next (.pointer (some ⟨w.heap.size, 0, none⟩)) true ty).run Tryz.prog (w.iter a0 pos) = _ := fun ty => run_next_end w a0 pos ty hp
      go_wp2
      go_ret
      have e : pos = a0.size := by omega
      subst e
      have := Hall.out
      rw [List.take_of_length_le (by simp)] at this
      rw [show plainB a0 = true from this]
      exact ⟨rfl, below_alloc (Below.refl _ _) _⟩


/-! ### stringslite_HasPrefix: function 68 -/
def stringslite_HasPrefix.f (a0 : ByteArray) (a1 : ByteArray) : Option (Bool) := if (a0.size : Int) ≥ (a1.size : Int) then (if 0 ≤ (a1.size : Int) then (if (a1.size : Int) ≤ (a0.size : Int) then (some ((a0.extract 0 ((a1.size : Int) : Int).toNat).toList == a1.toList)) else (none)) else (none)) else (some false)
theorem stringslite_HasPrefix.calls (a0 : ByteArray) (a1 : ByteArray) (r : Bool) (w : World) (h : stringslite_HasPrefix.f a0 a1 = some r) :
  Calls Tryz.prog 68 #[.string a0, .string a1] w fun e w' => e = .returned (.bool r) ∧ Drawn0 w w' := by
 have H : (if (a0.size : Int) ≥ (a1.size : Int) then (if 0 ≤ (a1.size : Int) then (if (a1.size : Int) ≤ (a0.size : Int) then (some ((a0.extract 0 ((a1.size : Int) : Int).toNat).toList == a1.toList)) else (none)) else (none)) else (some false)) = some r := h
 clear h
 by_cases c3 : (a0.size : Int) ≥ (a1.size : Int)
 ·rw [if_pos c3] at H
  have c3b0 : decide ((a1.size : Int) ≤ (a0.size : Int)) = true := decide_eq_true c3
  have c3b1 : decide (a1.size ≤ a0.size) = true := decide_eq_true (Int.ofNat_le.mp c3)
  clear c3
  by_cases c4 : 0 ≤ (a1.size : Int)
  rotate_left
  ·rw [if_neg c4] at H
   exact ab H
  rw [if_pos c4] at H
  have c4b0 := eq_true c4
  have c4b1 : decide (0 ≤ (a1.size : Int)) = true := decide_eq_true c4
  clear c4
  by_cases c5 : (a1.size : Int) ≤ (a0.size : Int)
  rotate_left
  ·rw [if_neg c5] at H
   exact ab H
  rw [if_pos c5] at H
  have c5b0 := eq_true c5
  have c5b1 : decide ((a1.size : Int) ≤ (a0.size : Int)) = true := decide_eq_true c5
  clear c5
  obtain rfl := Option.some.inj H
  go_enter Tryz.func68, Tryz.ntmps68
  go_wp2
  go_ret
  exact ⟨by first | rfl | (simp [bneNil]; done) | (simp; done) | (simp [*]; done), dr⟩
 ·rw [if_neg c3] at H
  have c3b0 : decide ((a1.size : Int) ≤ (a0.size : Int)) = false := decide_eq_false c3
  have c3b1 : decide (a1.size ≤ a0.size) = false := decide_eq_false (fun h => c3 (Int.ofNat_le.mpr h))
  clear c3
  obtain rfl := Option.some.inj H
  go_enter Tryz.func68, Tryz.ntmps68
  go_wp2
  go_ret
  exact ⟨by first | rfl | (simp [bneNil]; done) | (simp; done) | (simp [*]; done), dr⟩

/-! ### stringslite_CutPrefix: function 60 -/
def stringslite_CutPrefix.f (a0 : ByteArray) (a1 : ByteArray) : Option (ByteArray × Bool) := (stringslite_HasPrefix.f a0 a1).bind fun t101 => (if t101 = true then (if 0 ≤ (a1.size : Int) then (if (a1.size : Int) ≤ (a0.size : Int) then (some (a0.extract ((a1.size : Int) : Int).toNat a0.size, true)) else (none)) else (none)) else (some (a0, false)))
theorem stringslite_CutPrefix.calls (a0 : ByteArray) (a1 : ByteArray) (r1 : ByteArray) (r2 : Bool) (w : World) (h : stringslite_CutPrefix.f a0 a1 = some (r1, r2)) :
  Calls Tryz.prog 60 #[.string a0, .string a1] w fun e w' => e = .returned (.tuple #[.string r1, .bool r2]) ∧ Drawn0 w w' := by
 have H : ((stringslite_HasPrefix.f a0 a1).bind fun t101 => (if t101 = true then (if 0 ≤ (a1.size : Int) then (if (a1.size : Int) ≤ (a0.size : Int) then (some (a0.extract ((a1.size : Int) : Int).toNat a0.size, true)) else (none)) else (none)) else (some (a0, false)))) = some (r1, r2) := h
 clear h
 obtain ⟨t101, A30, H⟩ := Option.bind_eq_some_iff.mp H
 replace H : (if t101 = true then (if 0 ≤ (a1.size : Int) then (if (a1.size : Int) ≤ (a0.size : Int) then (some (a0.extract ((a1.size : Int) : Int).toNat a0.size, true)) else (none)) else (none)) else (some (a0, false))) = some (r1, r2) := H
 have A3 := Aside0.mk A30
 clear A30
 by_cases c4 : t101 = true
 ·subst c4
  replace H : (if 0 ≤ (a1.size : Int) then (if (a1.size : Int) ≤ (a0.size : Int) then (some (a0.extract ((a1.size : Int) : Int).toNat a0.size, true)) else (none)) else (none)) = some (r1, r2) := by rw [if_pos rfl] at H; exact H
  by_cases c5 : 0 ≤ (a1.size : Int)
  rotate_left
  ·rw [if_neg c5] at H
   exact ab H
  rw [if_pos c5] at H
  have c5b0 := eq_true c5
  have c5b1 : decide (0 ≤ (a1.size : Int)) = true := decide_eq_true c5
  clear c5
  by_cases c6 : (a1.size : Int) ≤ (a0.size : Int)
  rotate_left
  ·rw [if_neg c6] at H
   exact ab H
  rw [if_pos c6] at H
  have c6b0 := eq_true c6
  have c6b1 : decide ((a1.size : Int) ≤ (a0.size : Int)) = true := decide_eq_true c6
  clear c6
  simp only [Option.some.injEq, Prod.mk.injEq] at H
  obtain ⟨rfl, rfl⟩ := H
  go_enter Tryz.func60, Tryz.ntmps60
  go_wp2_with (first | ((with_reducible refine gate_callee (f := 68) rfl ?_); refine goesL_ (some 8) rfl rfl Tryz.func68 kf rfl #[.string a0, .string a1] rfl ml ?_; (with_reducible refine (stringslite_HasPrefix.calls a0 a1 true _ A3.out).mono ?_); rintro e w' ⟨rfl, ⟨nd, rfl⟩⟩; refine ⟨_, rfl, ?_⟩))
  go_ret2
  exact ⟨by first | rfl | (simp [bneNil]; done) | (simp; done) | (simp [*]; done), dr⟩
 ·replace c4 := Bool.eq_false_iff.mpr c4
  subst c4
  replace H : (some (a0, false)) = some (r1, r2) := by rw [if_neg (show ¬ (false = true) by decide)] at H; exact H
  simp only [Option.some.injEq, Prod.mk.injEq] at H
  obtain ⟨rfl, rfl⟩ := H
  go_enter Tryz.func60, Tryz.ntmps60
  go_wp2_with (first | ((with_reducible refine gate_callee (f := 68) rfl ?_); refine goesL_ (some 8) rfl rfl Tryz.func68 kf rfl #[.string a0, .string a1] rfl ml ?_; (with_reducible refine (stringslite_HasPrefix.calls a0 a1 false _ A3.out).mono ?_); rintro e w' ⟨rfl, ⟨nd, rfl⟩⟩; refine ⟨_, rfl, ?_⟩))
  go_ret2
  exact ⟨by first | rfl | (simp [bneNil]; done) | (simp; done) | (simp [*]; done), dr⟩

/-! ### strings_CutPrefix: function 30 -/
def strings_CutPrefix.f (a0 : ByteArray) (a1 : ByteArray) : Option (ByteArray × Bool) := (stringslite_CutPrefix.f a0 a1).bind fun bt102 => (some (bt102.1, bt102.2))
theorem strings_CutPrefix.calls (a0 : ByteArray) (a1 : ByteArray) (r1 : ByteArray) (r2 : Bool) (w : World) (h : strings_CutPrefix.f a0 a1 = some (r1, r2)) :
  Calls Tryz.prog 30 #[.string a0, .string a1] w fun e w' => e = .returned (.tuple #[.string r1, .bool r2]) ∧ Drawn0 w w' := by
 have H : ((stringslite_CutPrefix.f a0 a1).bind fun bt102 => (some (bt102.1, bt102.2))) = some (r1, r2) := h
 clear h
 obtain ⟨⟨t102, t103⟩, A30, H⟩ := Option.bind_eq_some_iff.mp H
 replace H : (some (t102, t103)) = some (r1, r2) := H
 have A3 := Aside0.mk A30
 clear A30
 simp only [Option.some.injEq, Prod.mk.injEq] at H
 obtain ⟨rfl, rfl⟩ := H
 go_enter Tryz.func30, Tryz.ntmps30
 go_wp2_with (first | ((with_reducible refine gate_callee (f := 60) rfl ?_); refine goesL_ (some 8) rfl rfl Tryz.func60 kf rfl #[.string a0, .string a1] rfl ml ?_; (with_reducible refine (stringslite_CutPrefix.calls a0 a1 t102 t103 _ A3.out).mono ?_); rintro e w' ⟨rfl, ⟨nd, rfl⟩⟩; refine ⟨_, rfl, ?_⟩))
 go_ret2
 exact ⟨by first | rfl | (simp [bneNil]; done) | (simp; done) | (simp [*]; done), dr⟩

/-! ### strings_Split: function 87 (by hand) -/
def strings_Split.f (a0 a1 : ByteArray) : Option (List ByteArray) := if a0.size < 4294967281 ∧ 1 ≤ a1.size then some (Lib.splitB a1 0 (Lib.countB a0 a1) a0) else none
theorem strings_Split.calls (a0 a1 : ByteArray) (r : List ByteArray) (w : World) (hG : Glob w) (h : strings_Split.f a0 a1 = some r) :
    Calls Tryz.prog 87 #[.string a0, .string a1] w fun e w' => ∃ v0_ : Value, e = .returned (v0_) ∧ Kd.R Kd.string 9 w' w.heap.size (fun _ => True) v0_ r ∧ Below w.heap.size w w' := by
  unfold strings_Split.f at h
  split at h
  · rename_i hs
    obtain rfl := Option.some.inj h
    obtain ⟨m, hm⟩ := hG.mx
    refine (Tryz.strings_Split a0 a1 m w hs.1 hm hs.2).mono ?_
    rintro e w' ⟨rfl, rfl⟩
    have hl := Lib.splitB_all a1 hs.2 0 _ a0 rfl
    have hc := Lib.countB_le a1 hs.2 a0.size a0 (Nat.le_refl _)
    have ho := own_lit_of (enc := Value.string) w w.heap.size 9 (Lib.splitB a1 0 (Lib.countB a0 a1) a0) (Nat.le_refl _) (by rw [hl]; omega)
    refine ⟨_, rfl, Kd.R_of_own ?_ (fun _ _ => trivial), (Below.refl _ _).alloc (Nat.le_refl _) _⟩
    rw [hl] at ho ⊢
    exact ho
  · cases h


/-! ### strings_Trim: function 114 (by hand) -/
def strings_Trim.f (a0 a1 : ByteArray) : Option ByteArray := if a0.size ≤ 9223372036854775807 ∧ a1.size < 4294967281 ∧ (a1.data.toList.all fun b => decide (b.toNat < 128)) = true then some ⟨(Lib.trimS a0.data.toList a1.data.toList).toArray⟩ else none
theorem strings_Trim.calls (a0 a1 : ByteArray) (r : ByteArray) (w : World) (h : strings_Trim.f a0 a1 = some r) :
    Calls Tryz.prog 114 #[.string a0, .string a1] w fun e w' => e = .returned (.string r) ∧ Below w.heap.size w w' := by
  unfold strings_Trim.f at h
  by_cases hc : a0.size ≤ 9223372036854775807 ∧ a1.size < 4294967281 ∧ (a1.data.toList.all fun b => decide (b.toNat < 128)) = true
  · rw [if_pos hc] at h
    obtain rfl := Option.some.inj h
    refine Any.strings_Trim_laid Tryz.lays160 kf a0 a1 w hc.1 hc.2.1 (fun j b hj => ?_)
    have := List.all_eq_true.1 hc.2.2 b (List.mem_of_getElem? hj)
    simpa using this
  · rw [if_neg hc] at h; cases h


/-! ### text_Number: function 112 (by hand) -/
def digC (c : UInt8) : Bool := decide (48 ≤ c.toNat) && decide (c.toNat ≤ 57)
def numL (l : List UInt8) : Int := l.foldl (fun n c => 10 * n + ((c.toNat : Int) - 48)) 0
def numOK (s : ByteArray) (d : Int) : Bool := !s.data.toList.isEmpty && decide ((s.size : Int) ≤ max 1 (min d 15)) && s.data.toList.all digC
def text_Number.f (a0 : ByteArray) (a1 : Int) : Option (Int × Int) := if a0.size < 70368744177000 then (if numOK a0 a1 = true then some (numL a0.data.toList, 0) else some (0, 5)) else none
theorem numL_snoc (l : List UInt8) (c : UInt8) : numL (l ++ [c]) = 10 * numL l + ((c.toNat : Int) - 48) := by simp [numL]
theorem numL_bd : ∀ (n : Nat) (l : List UInt8), l.length = n → l.all digC = true → 0 ≤ numL l ∧ numL l < 10 ^ n := by
  intro n
  induction n with
  | zero => intro l h _; obtain rfl := List.eq_nil_of_length_eq_zero h; simp [numL]
  | succ n ih =>
    intro l h ha
    obtain ⟨i, c, rfl⟩ : ∃ i c, l = i ++ [c] := by
      have hne : l ≠ [] := by intro e; rw [e] at h; simp at h
      exact ⟨l.dropLast, l.getLast hne, (List.dropLast_concat_getLast hne).symm⟩
    simp at h
    rw [List.all_append, Bool.and_eq_true] at ha
    have := ih i h ha.1
    have hc : 48 ≤ c.toNat ∧ c.toNat ≤ 57 := by simpa [digC] using ha.2
    rw [numL_snoc, Int.pow_succ]
    omega
theorem dropW_nil {p : UInt8 → Bool} : ∀ {l : List UInt8}, l.dropWhile p = [] ↔ ∀ x ∈ l, p x = true
  | [] => by simp
  | a :: l => by
    by_cases h : p a = true
    · simp [List.dropWhile_cons, h, dropW_nil (l := l)]
    · simp [List.dropWhile_cons, h]
theorem trim_nil (p : UInt8 → Bool) (l : List UInt8) : ((l.reverse.dropWhile p).reverse.dropWhile p = []) ↔ l.all p = true := by
  constructor
  · intro h
    have h1 : ∀ x ∈ (l.reverse.dropWhile p).reverse, p x = true := by simpa using dropW_nil.1 h
    have h2 : l.reverse.dropWhile p = [] := by
      cases hd : l.reverse.dropWhile p with
      | nil => rfl
      | cons a t =>
        have ha := h1 a (by rw [hd]; simp)
        have := List.head?_dropWhile_not p l.reverse
        rw [hd] at this
        simp [ha] at this
    rw [List.all_eq_true]
    intro x hx
    have := dropW_nil.1 h2 x (by simpa using hx)
    exact this
  · intro h
    have : l.reverse.dropWhile p = [] := dropW_nil.2 (fun x hx => List.all_eq_true.1 h x (by simpa using hx))
    rw [this]; rfl
theorem dig_has (c : UInt8) : [48, 49, 50, 51, 52, 53, 54, 55, 56, 57].contains c = digC c := by
  have : ∀ n, n < 256 → [48, 49, 50, 51, 52, 53, 54, 55, 56, 57].contains (UInt8.ofNat n) = digC (UInt8.ofNat n) := by decide +kernel
  have h := this c.toNat (UInt8.toNat_lt c)
  rwa [UInt8.ofNat_toNat] at h
theorem trim_digits (s : ByteArray) : Lib.trimS s.data.toList [48, 49, 50, 51, 52, 53, 54, 55, 56, 57] = [] ↔ s.data.toList.all digC = true := by
  unfold Lib.trimS Lib.trimLeftS Lib.trimRightS
  simp only [dig_has]
  exact trim_nil digC _
def numTrim (s : ByteArray) : ByteArray := ⟨(Lib.trimS s.data.toList [48, 49, 50, 51, 52, 53, 54, 55, 56, 57]).toArray⟩
theorem numTrim_nil (s : ByteArray) : (numTrim s).toList = [] ↔ s.data.toList.all digC = true := by
  rw [ByteArray.toList_eq, ← trim_digits]; simp [numTrim]
theorem num_take (s : ByteArray) (k : Nat) (h : k < s.size) : numL (s.data.toList.take (k + 1)) = 10 * numL (s.data.toList.take k) + (((s[k]'h).toNat : Int) - 48) := by
  rw [List.take_succ_eq_append_getElem (by simpa using h), numL_snoc]; rfl
theorem dig_at (s : ByteArray) (ha : s.data.toList.all digC = true) (k : Nat) (h : k < s.size) : 48 ≤ (s[k]'h).toNat ∧ (s[k]'h).toNat ≤ 57 := by
  have h' : k < s.data.toList.length := by simpa using h
  have e : s.data.toList[k]'h' = s[k]'h := by simp; rfl
  have := List.all_eq_true.1 ha (s.data.toList[k]'h') (List.getElem_mem h')
  rw [e] at this
  simpa [digC] using this
theorem bytes_cell_at3 {W w1 : World} {g e : Nat} {s : ByteArray} {C : Array Value} {fz : Nat × Nat} (h : W.heap[g]? = some (.cells C e fz)) (hC : C = Lib.bytesCells w1 e s) (j : Nat) (hj : j < s.size) : W.cell? ⟨g, j, none⟩ = some (.int .u8 ((s[j]'hj).toNat : Nat)) := by
  subst hC
  simp [World.cell?, h, Lib.bytesCells, Array.getElem?_append, hj]
  rfl
theorem text_Number.calls (a0 : ByteArray) (a1 r1 r2 : Int) (w : World) (h : text_Number.f a0 a1 = some (r1, r2)) :
    Calls Tryz.prog 112 #[.string a0, .int .i64 a1] w fun e w' => e = .returned (.tuple #[.int .i64 r1, .int .i64 r2]) ∧ Below w.heap.size w w' := by
  unfold text_Number.f at h
  by_cases hsz : a0.size < 70368744177000
  · rw [if_pos hsz] at h
    obtain ⟨m1, hm1⟩ : ∃ m, (if 15 < a1 then 15 else a1) = m := ⟨_, rfl⟩
    obtain ⟨m2, hm2⟩ : ∃ m, (if 1 < m1 then m1 else 1) = m := ⟨_, rfl⟩
    have hmm : max 1 (min a1 15) = m2 := by split at hm1 <;> split at hm2 <;> omega
    have hm15 : m2 ≤ 15 := by split at hm1 <;> split at hm2 <;> omega
    by_cases he : a0.toList = ([] : List UInt8)
    · have hf : numOK a0 a1 = false := by unfold numOK; rw [← ByteArray.toList_eq, he]; rfl
      rw [hf] at h
      simp only [Bool.false_eq_true, if_false, Option.some.injEq, Prod.mk.injEq] at h
      obtain ⟨rfl, rfl⟩ := h
      have hb : (a0.toList == ([] : List UInt8)) = true := beq_iff_eq.mpr he
      have hb3 : a0.toList.isEmpty = true := by rw [he]; rfl
      clear hm1 hm2 hmm hf he
      go_enter Tryz.func112, Tryz.ntmps112
      go_wp2
      go_ret2
      exact ⟨rfl, Below.refl _ _⟩
    · have hb : (a0.toList == ([] : List UInt8)) = false := beq_eq_false_iff_ne.mpr he
      have hb3 : a0.toList.isEmpty = false := by cases h : a0.toList <;> simp_all
      have hb4 : a0.data.toList.isEmpty = false := by rw [← ByteArray.toList_eq]; exact hb3
      clear he
      by_cases hl : m2 < (a0.size : Int)
      · have hf : numOK a0 a1 = false := by
          unfold numOK; rw [hmm, decide_eq_false (by omega)]; simp
        rw [hf] at h
        simp only [Bool.false_eq_true, if_false, Option.some.injEq, Prod.mk.injEq] at h
        obtain ⟨rfl, rfl⟩ := h
        have hlb : decide (m2 < (a0.size : Int)) = true := decide_eq_true hl
        clear hmm hf hb4
        go_enter Tryz.func112, Tryz.ntmps112
        go_wp2
        go_ret2
        exact ⟨rfl, Below.refl _ _⟩
      · have hlb : decide (m2 < (a0.size : Int)) = false := decide_eq_false hl
        have hlen : a0.size ≤ 15 := by omega
        have hT : strings_Trim.f a0 ⟨#[48, 49, 50, 51, 52, 53, 54, 55, 56, 57]⟩ = some (numTrim a0) := by
          unfold strings_Trim.f; rw [if_pos ⟨by omega, by decide, by decide⟩]; rfl
        have HT := Lib.hid hT
        clear hT
        have hiff := numTrim_nil a0
        obtain ⟨tr, htr⟩ : ∃ tr, tr = numTrim a0 := ⟨_, rfl⟩
        rw [← htr] at HT hiff
        clear htr
        by_cases ha : a0.data.toList.all digC = true
        · have hf : numOK a0 a1 = true := by
            unfold numOK; rw [hmm, decide_eq_true (by omega), hb4, ha]; rfl
          rw [if_pos hf] at h
          simp only [Option.some.injEq, Prod.mk.injEq] at h
          obtain ⟨rfl, rfl⟩ := h
          have htn := hiff.2 ha
          have t1 : (tr.toList == ([] : List UInt8)) = true := beq_iff_eq.mpr htn
          have t2 : (tr.toList != ([] : List UInt8)) = false := bne_eq_false_iff_eq.mpr htn
          have t3 : tr.toList.isEmpty = true := by rw [htn]; rfl
          have Ha := Lib.hid ha
          clear hmm hf hb4 hiff htn ha
          have hcv := fun W => print_bytes (P := Tryz.prog) 9 55 5 Tryz.underlying9 Tryz.underlying55 Tryz.underlying5 a0 W
          go_enter Tryz.func112, Tryz.ntmps112
          go_wp2_with (go_at_call 114; refine (strings_Trim.calls a0 _ tr _ HT.out).mono ?_; rintro e w1 ⟨rfl, hb1⟩; have HB1 := Lib.hid hb1; clear hb1)
          clear hcv
          have HB := Aside0.mk (bytes_below HB1.out HB1.out.size 5 a0)
          have HG := Lib.hid (Lib.bytesWorld_at_new w1 5 a0)
          obtain ⟨C, hC⟩ : ∃ C, C = Lib.bytesCells w1 5 a0 := ⟨_, rfl⟩
          rw [← hC] at HG
          have HC := Lib.hid hC
          clear hC
          obtain ⟨w3, hw3⟩ : ∃ w3, w3 = Lib.bytesWorld w1 5 a0 := ⟨_, rfl⟩
          rw [← hw3] at HG HB ⊢
          clear hw3
          generalize grownCap w1 a0.size 0 5 = cap
          go_loop [6, 27] (fun v6 v27 => ∃ k : Nat, v27 = .int .i64 k ∧ k ≤ a0.size ∧ v6 = .int .i64 (numL (a0.data.toList.take k))) (fun _ v27 => a0.size - (intOf v27).toNat)
          case atStart => exact ⟨0, rfl, Nat.zero_le _, rfl⟩
          case round =>
            obtain ⟨k, rfl, hk, rfl⟩ := hrel
            by_cases hlt : k < a0.size
            · have hcell : w3.cell? ⟨w1.heap.size, k, none⟩ = some (.int .u8 ((a0[k]'hlt).toNat : Nat)) := bytes_cell_at3 HG.out HC.out k hlt
              have hd := dig_at a0 Ha.out k hlt
              have Hn := Lib.hid (num_take a0 k hlt)
              have hx := numL_bd k (a0.data.toList.take k) (by rw [List.length_take, Array.length_toList]; exact Nat.min_eq_left hk) (by
                rw [List.all_eq_true]; intro x hx; exact List.all_eq_true.1 Ha.out x (List.mem_of_mem_take hx))
              have hp : (10 : Int) ^ k ≤ 1000000000000000 := by
                have : ∀ j, j < 16 → (10 : Int) ^ j ≤ 1000000000000000 := by decide
                exact this k (by omega)
              obtain ⟨hx0, hx1⟩ := hx
              have hx2 : numL (a0.data.toList.take k) ≤ 1000000000000000 := by omega
              clear hx1 hp
              obtain ⟨hd1, hd2⟩ := hd
              obtain ⟨c, hc⟩ : ∃ c : Nat, c = (a0[k]'hlt).toNat := ⟨_, rfl⟩
              rw [← hc] at hcell hd1 hd2 Hn
              clear hc
              obtain ⟨x, hx⟩ : ∃ x : Int, x = numL (a0.data.toList.take k) := ⟨_, rfl⟩
              rw [← hx] at hx0 hx2 Hn ⊢
              clear hx
              have hd1' : 48 ≤ (c : Int) := by omega
              have hd2' : (c : Int) ≤ 57 := by omega
              clear hd1 hd2 hm1 hm2
              go_wp2
              go_round
              case rel => exact ⟨k + 1, by go_num, hlt, by rw [Hn.out]⟩
              case measure => simp [intOf]; omega
            · have hk' : k = a0.size := by omega
              subst hk'
              have HF := Lib.hid (show numL (a0.data.toList.take a0.size) = numL a0.data.toList by rw [List.take_of_length_le (by simp)])
              go_wp2
              go_ret2
              exact ⟨by rw [← HF.out]; rfl, HB.out⟩
        · have hf : numOK a0 a1 = false := by
            unfold numOK; rw [Bool.eq_false_iff.mpr ha]; simp
          rw [hf] at h
          simp only [Bool.false_eq_true, if_false, Option.some.injEq, Prod.mk.injEq] at h
          obtain ⟨rfl, rfl⟩ := h
          have htn : ¬ tr.toList = [] := fun e => ha (hiff.1 e)
          have t1 : (tr.toList == ([] : List UInt8)) = false := beq_eq_false_iff_ne.mpr htn
          have t2 : (tr.toList != ([] : List UInt8)) = true := bne_iff_ne.mpr htn
          have t3 : tr.toList.isEmpty = false := by cases h : tr.toList <;> simp_all
          clear hmm hf hb4 hiff htn ha
          go_enter Tryz.func112, Tryz.ntmps112
          go_wp2_with (go_at_call 114; refine (strings_Trim.calls a0 _ tr _ HT.out).mono ?_; rintro e w1 ⟨rfl, hb1⟩; have HB1 := Lib.hid hb1; clear hb1)
          go_ret2
          exact ⟨rfl, HB1.out⟩
  · rw [if_neg hsz] at h; cases h


/-! ### strconv_Itoa: function 113 (by hand) -/
def strconv_Itoa.f (a0 : Int) : Option ByteArray := if -9223372036854775808 ≤ a0 ∧ a0 ≤ 9223372036854775807 then some ⟨(Lib.itoa a0).toArray⟩ else none
theorem strconv_Itoa.calls (a0 : Int) (r : ByteArray) (w : World) (hG : Glob w) (h : strconv_Itoa.f a0 = some r) :
    Calls Tryz.prog 113 #[.int .i64 a0] w fun e w' => e = .returned (.string r) ∧ Below w.heap.size w w' := by
  unfold strconv_Itoa.f at h
  split at h
  · rename_i hs
    obtain rfl := Option.some.inj h
    refine (Tryz.strconv_Itoa a0 hs.1 hs.2 w hG.p10).mono ?_
    rintro e w' ⟨rfl, k, os, rfl⟩
    exact ⟨rfl, Lib.below_grow _ _ (Nat.le_refl _) _ _⟩
  · cases h


/-! ### addr_octet: function 91 -/
def addr_octet.f (a0 : ByteArray) : Option (Bool) := (text_Number.f a0 3).bind fun bt104 => (if bt104.2 = 0 then (if bt104.1 < 256 then ((strconv_Itoa.f bt104.1).bind fun t106 => (some (t106.toList == a0.toList))) else (some false)) else (some false))
theorem addr_octet.calls (a0 : ByteArray) (r : Bool) (w : World) (hG : Glob w) (h : addr_octet.f a0 = some r) :
  Calls Tryz.prog 91 #[.string a0] w fun e w' => e = .returned (.bool r) ∧ Below w.heap.size w w' := by
 have HB := Aside0.mk (Below.refl w.heap.size w)
 have HG := Aside0.mk hG
 clear hG
 have H : ((text_Number.f a0 3).bind fun bt104 => (if bt104.2 = 0 then (if bt104.1 < 256 then ((strconv_Itoa.f bt104.1).bind fun t106 => (some (t106.toList == a0.toList))) else (some false)) else (some false))) = some r := h
 clear h
 obtain ⟨⟨t104, t105⟩, A20, H⟩ := Option.bind_eq_some_iff.mp H
 replace H : (if t105 = 0 then (if t104 < 256 then ((strconv_Itoa.f t104).bind fun t106 => (some (t106.toList == a0.toList))) else (some false)) else (some false)) = some r := H
 have A2 := Aside0.mk A20
 clear A20
 by_cases c3 : t105 = 0
 ·rw [if_pos c3] at H
  have c3b0 : (t105 == 0) = true := beq_iff_eq.mpr c3
  have c3b1 : (t105 != 0) = false := bne_eq_false_iff_eq.mpr c3
  clear c3
  by_cases c4 : t104 < 256
  ·rw [if_pos c4] at H
   have c4b0 : decide (t104 < 256) = true := decide_eq_true c4
   clear c4
   obtain ⟨t106, A50, H⟩ := Option.bind_eq_some_iff.mp H
   replace H : (some (t106.toList == a0.toList)) = some r := H
   have A5 := Aside0.mk A50
   clear A50
   obtain rfl := Option.some.inj H
   go_enter Tryz.func91, Tryz.ntmps91
   go_wp2_with (first | ((with_reducible refine gate_callee (f := 112) rfl ?_); refine goesL_ (some 7) rfl rfl Tryz.func112 kf rfl #[.string a0, .int .i64 3] rfl ml ?_; (with_reducible refine (text_Number.calls a0 3 t104 t105 _ A2.out).mono ?_); rintro e w6 ⟨rfl, hb⟩; refine ⟨_, rfl, ?_⟩; replace HB := Aside0.mk (below_step bl hb); (try clear hb); (try clear hb2); (try clear hk); (try clear hi)) | (go_at_call 113; (with_reducible refine (strconv_Itoa.calls t104 t106 _ ?side1 A5.out).mono ?_); (case side1 => exact Glob.below HG.out bl); rintro e w7 ⟨rfl, hb⟩; replace HB := Aside0.mk (below_step bl hb); (try clear hb); (try clear hb2); (try clear hk); (try clear hi)))
   go_ret
   exact ⟨rf, bl⟩
  ·rw [if_neg c4] at H
   have c4b0 : decide (t104 < 256) = false := decide_eq_false c4
   clear c4
   obtain rfl := Option.some.inj H
   go_enter Tryz.func91, Tryz.ntmps91
   go_wp2_with (first | ((with_reducible refine gate_callee (f := 112) rfl ?_); refine goesL_ (some 7) rfl rfl Tryz.func112 kf rfl #[.string a0, .int .i64 3] rfl ml ?_; (with_reducible refine (text_Number.calls a0 3 t104 t105 _ A2.out).mono ?_); rintro e w8 ⟨rfl, hb⟩; refine ⟨_, rfl, ?_⟩; replace HB := Aside0.mk (below_step bl hb); (try clear hb); (try clear hb2); (try clear hk); (try clear hi)))
   go_ret
   exact ⟨rf, bl⟩
 ·rw [if_neg c3] at H
  have c3b0 : (t105 == 0) = false := beq_eq_false_iff_ne.mpr c3
  have c3b1 : (t105 != 0) = true := bne_iff_ne.mpr c3
  obtain rfl := Option.some.inj H
  go_enter Tryz.func91, Tryz.ntmps91
  go_wp2_with (first | ((with_reducible refine gate_callee (f := 112) rfl ?_); refine goesL_ (some 7) rfl rfl Tryz.func112 kf rfl #[.string a0, .int .i64 3] rfl ml ?_; (with_reducible refine (text_Number.calls a0 3 t104 t105 _ A2.out).mono ?_); rintro e w9 ⟨rfl, hb⟩; refine ⟨_, rfl, ?_⟩; replace HB := Aside0.mk (below_step bl hb); (try clear hb); (try clear hb2); (try clear hk); (try clear hi)))
  go_ret
  exact ⟨rf, bl⟩

/-! ### addr_label: function 92 -/
def addr_label.f (a0 : ByteArray) : Option (Bool) := if a0.toList = ([] : List UInt8) then (some false) else ((strings_Trim.f a0 (⟨#[97, 98, 99, 100, 101, 102, 103, 104, 105, 106, 107, 108, 109, 110, 111, 112, 113, 114, 115, 116, 117, 118, 119, 120, 121, 122, 65, 66, 67, 68, 69, 70, 71, 72, 73, 74, 75, 76, 77, 78, 79, 80, 81, 82, 83, 84, 85, 86, 87, 88, 89, 90, 48, 49, 50, 51, 52, 53, 54, 55, 56, 57, 45]⟩ : ByteArray)).bind fun t107 => (if t107.toList = ([] : List UInt8) then (if 0 < (a0.size : Int) then (if (bt a0 0) = 45 then (some false) else (if 0 ≤ (wrap64 ((a0.size : Int) - 1)) then (if (wrap64 ((a0.size : Int) - 1)) < (a0.size : Int) then (some ((bt a0 (wrap64 ((a0.size : Int) - 1))) != 45)) else (none)) else (none))) else (none)) else (some false)))
theorem addr_label.calls (a0 : ByteArray) (r : Bool) (w : World) (h : addr_label.f a0 = some r) :
  Calls Tryz.prog 92 #[.string a0] w fun e w' => e = .returned (.bool r) ∧ Below w.heap.size w w' := by
 have HB := Aside0.mk (Below.refl w.heap.size w)
 have H : (if a0.toList = ([] : List UInt8) then (some false) else ((strings_Trim.f a0 (⟨#[97, 98, 99, 100, 101, 102, 103, 104, 105, 106, 107, 108, 109, 110, 111, 112, 113, 114, 115, 116, 117, 118, 119, 120, 121, 122, 65, 66, 67, 68, 69, 70, 71, 72, 73, 74, 75, 76, 77, 78, 79, 80, 81, 82, 83, 84, 85, 86, 87, 88, 89, 90, 48, 49, 50, 51, 52, 53, 54, 55, 56, 57, 45]⟩ : ByteArray)).bind fun t107 => (if t107.toList = ([] : List UInt8) then (if 0 < (a0.size : Int) then (if (bt a0 0) = 45 then (some false) else (if 0 ≤ (wrap64 ((a0.size : Int) - 1)) then (if (wrap64 ((a0.size : Int) - 1)) < (a0.size : Int) then (some ((bt a0 (wrap64 ((a0.size : Int) - 1))) != 45)) else (none)) else (none))) else (none)) else (some false)))) = some r := h
 clear h
 by_cases c2 : a0.toList = ([] : List UInt8)
 ·rw [if_pos c2] at H
  have c2b0 : (a0.toList == ([] : List UInt8)) = true := beq_iff_eq.mpr c2
  have c2b1 : (a0.toList != ([] : List UInt8)) = false := bne_eq_false_iff_eq.mpr c2
  clear c2
  obtain rfl := Option.some.inj H
  go_enter Tryz.func92, Tryz.ntmps92
  go_wp2
  go_ret
  exact ⟨rf, bl⟩
 ·rw [if_neg c2] at H
  have c2b0 : (a0.toList == ([] : List UInt8)) = false := beq_eq_false_iff_ne.mpr c2
  have c2b1 : (a0.toList != ([] : List UInt8)) = true := bne_iff_ne.mpr c2
  obtain ⟨t107, A30, H⟩ := Option.bind_eq_some_iff.mp H
  replace H : (if t107.toList = ([] : List UInt8) then (if 0 < (a0.size : Int) then (if (bt a0 0) = 45 then (some false) else (if 0 ≤ (wrap64 ((a0.size : Int) - 1)) then (if (wrap64 ((a0.size : Int) - 1)) < (a0.size : Int) then (some ((bt a0 (wrap64 ((a0.size : Int) - 1))) != 45)) else (none)) else (none))) else (none)) else (some false)) = some r := H
  have A3 := Aside0.mk A30
  clear A30
  by_cases c4 : t107.toList = ([] : List UInt8)
  ·rw [if_pos c4] at H
   have c4b0 : (t107.toList == ([] : List UInt8)) = true := beq_iff_eq.mpr c4
   have c4b1 : (t107.toList != ([] : List UInt8)) = false := bne_eq_false_iff_eq.mpr c4
   clear c4
   by_cases c5 : 0 < (a0.size : Int)
   rotate_left
   ·rw [if_neg c5] at H
    exact ab H
   rw [if_pos c5] at H
   have c5b0 : decide (0 < (a0.size : Int)) = true := decide_eq_true c5
   have c5b1 : decide (0 < a0.size) = true := decide_eq_true (by omega)
   clear c5
   by_cases c7 : (bt a0 0) = 45
   ·rw [if_pos c7] at H
    have c7b0 : ((bt a0 0) == 45) = true := beq_iff_eq.mpr c7
    have c7b1 : ((bt a0 0) != 45) = false := bne_eq_false_iff_eq.mpr c7
    clear c7
    obtain rfl := Option.some.inj H
    go_enter Tryz.func92, Tryz.ntmps92
    go_wp2_with (first | (go_at_call 114; (with_reducible refine (strings_Trim.calls a0 (⟨#[97, 98, 99, 100, 101, 102, 103, 104, 105, 106, 107, 108, 109, 110, 111, 112, 113, 114, 115, 116, 117, 118, 119, 120, 121, 122, 65, 66, 67, 68, 69, 70, 71, 72, 73, 74, 75, 76, 77, 78, 79, 80, 81, 82, 83, 84, 85, 86, 87, 88, 89, 90, 48, 49, 50, 51, 52, 53, 54, 55, 56, 57, 45]⟩ : ByteArray) t107 _ A3.out).mono ?_); rintro e w8 ⟨rfl, hb⟩; replace HB := Aside0.mk (below_step bl hb); (try clear hb); (try clear hb2); (try clear hk); (try clear hi); have p6 : 0 ≤ (0 : Int) := (by omega); have q6 : 0 < a0.size := (by have : (0 : Int) < (a0.size : Int) := od; omega); have hx6 : ∀ h : 0 < a0.size, ((a0[0]'h).toNat : Int) = bt a0 0 := bt_at a0 0; clear p6; have qi6 : (0 < (a0.size : Int)) = True := eq_true (od); replace q6 := eq_true q6))
    go_ret
    exact ⟨rf, bl⟩
   ·rw [if_neg c7] at H
    have c7b0 : ((bt a0 0) == 45) = false := beq_eq_false_iff_ne.mpr c7
    have c7b1 : ((bt a0 0) != 45) = true := bne_iff_ne.mpr c7
    obtain ⟨ji9, hji9⟩ : ∃ j_ : Int, (wrap64 ((a0.size : Int) - 1)) = j_ := ⟨_, rfl⟩
    replace H : (if 0 ≤ (ji9) then (if (ji9) < (a0.size : Int) then (some ((bt a0 (ji9)) != 45)) else (none)) else (none)) = some r := by first | (rw [hji9] at H; exact H) | (simp only [hji9] at H ⊢; exact H)
    (try rw [hji9] at A3)
    have hji9w : (IntKind.i64.wrap ((a0.size : Int) - 1)) = ji9 := (i64_w _).trans hji9
    by_cases c10 : 0 ≤ (ji9)
    rotate_left
    ·rw [if_neg c10] at H
     exact ab H
    rw [if_pos c10] at H
    have c10b0 : decide (0 ≤ (ji9)) = true := decide_eq_true c10
    clear c10
    by_cases c11 : (ji9) < (a0.size : Int)
    rotate_left
    ·rw [if_neg c11] at H
     exact ab H
    rw [if_pos c11] at H
    have c11b0 : decide ((ji9) < (a0.size : Int)) = true := decide_eq_true c11
    clear c11
    obtain rfl := Option.some.inj H
    go_enter Tryz.func92, Tryz.ntmps92
    go_wp2_with (first | (go_at_call 114; (with_reducible refine (strings_Trim.calls a0 (⟨#[97, 98, 99, 100, 101, 102, 103, 104, 105, 106, 107, 108, 109, 110, 111, 112, 113, 114, 115, 116, 117, 118, 119, 120, 121, 122, 65, 66, 67, 68, 69, 70, 71, 72, 73, 74, 75, 76, 77, 78, 79, 80, 81, 82, 83, 84, 85, 86, 87, 88, 89, 90, 48, 49, 50, 51, 52, 53, 54, 55, 56, 57, 45]⟩ : ByteArray) t107 _ A3.out).mono ?_); rintro e w13 ⟨rfl, hb⟩; replace HB := Aside0.mk (below_step bl hb); (try clear hb); (try clear hb2); (try clear hk); (try clear hi); have p6 : 0 ≤ (0 : Int) := (by omega); have q6 : 0 < a0.size := (by have : (0 : Int) < (a0.size : Int) := od; omega); have hx6 : ∀ h : 0 < a0.size, ((a0[0]'h).toNat : Int) = bt a0 0 := bt_at a0 0; clear p6; have qi6 : (0 < (a0.size : Int)) = True := eq_true (od); replace q6 := eq_true q6; have p12 : 0 ≤ ((ji9) : Int) := od; have q12 : (ji9) < (a0.size : Int) := od; have hx12 := bt_at a0 (ji9); replace p12 := eq_true p12; replace q12 := eq_true q12))
    go_ret
    exact ⟨by first | rfl | (simp [bneNil]; done) | (simp [errW_none, errW_some] <;> rfl) | (simp only [← hji9]; first | rfl | (simp [errW_none, errW_some] <;> rfl)) | (simp [*, errW_none, errW_some] <;> rfl), bl⟩
  ·rw [if_neg c4] at H
   have c4b0 : (t107.toList == ([] : List UInt8)) = false := beq_eq_false_iff_ne.mpr c4
   have c4b1 : (t107.toList != ([] : List UInt8)) = true := bne_iff_ne.mpr c4
   obtain rfl := Option.some.inj H
   go_enter Tryz.func92, Tryz.ntmps92
   go_wp2_with (first | (go_at_call 114; (with_reducible refine (strings_Trim.calls a0 (⟨#[97, 98, 99, 100, 101, 102, 103, 104, 105, 106, 107, 108, 109, 110, 111, 112, 113, 114, 115, 116, 117, 118, 119, 120, 121, 122, 65, 66, 67, 68, 69, 70, 71, 72, 73, 74, 75, 76, 77, 78, 79, 80, 81, 82, 83, 84, 85, 86, 87, 88, 89, 90, 48, 49, 50, 51, 52, 53, 54, 55, 56, 57, 45]⟩ : ByteArray) t107 _ A3.out).mono ?_); rintro e w14 ⟨rfl, hb⟩; replace HB := Aside0.mk (below_step bl hb); (try clear hb); (try clear hb2); (try clear hk); (try clear hi)))
   go_ret
   exact ⟨rf, bl⟩

/-! ### addr_domain_2: function 93 -/
def addr_domain_2.f (a0 : ByteArray) : Option (Bool) := some (decide ((a0.size : Int) ≤ 63))
theorem addr_domain_2.calls (a0 : ByteArray) (r : Bool) (w : World) (h : addr_domain_2.f a0 = some r) :
  Calls Tryz.prog 93 #[.string a0] w fun e w' => e = .returned (.bool r) ∧ Drawn0 w w' := by
 have H : (some (decide ((a0.size : Int) ≤ 63))) = some r := h
 clear h
 obtain rfl := Option.some.inj H
 go_enter Tryz.func93, Tryz.ntmps93
 go_wp2
 go_ret
 exact ⟨by first | rfl | (simp [bneNil]; done) | (simp; done) | (simp [*]; done), dr⟩

/-! ### addr_domain_1__addr_domain_2: function 86 with function 93 (by hand) -/
def addr_domain_1__addr_domain_2.p (x : ByteArray) : Option Bool := (addr_domain_2.f x).bind fun b => some (!b)
def addr_domain_1__addr_domain_2.f (a0 : ByteArray) : Option Bool := (strings_Split.f a0 (⟨#[46]⟩ : ByteArray)).bind fun l => (anyF (fun x => addr_domain_1__addr_domain_2.p x) l).bind fun b => some (!b)
theorem addr_domain_1__addr_domain_2.clo (x : ByteArray) (b : Bool) (w : World) (hG : Glob w) (Bi : Nat) (T : TypeId) (hm : w.heap[Bi]? = some (.cells #[.func (.func 93) #[] #[]] T (0, 0))) (h : addr_domain_1__addr_domain_2.p x = some b) :
    Calls Tryz.prog 88 #[.string x, .pointer (some ⟨Bi, 0, none⟩)] w fun e w' => e = .returned (.bool b) ∧ Below w.heap.size w w' := by
  obtain ⟨c, hc, he⟩ := Option.bind_eq_some_iff.mp h
  obtain rfl := Option.some.inj he
  have hcell : w.cell? ⟨Bi, 0, none⟩ = some (.func (.func 93) #[] #[]) := (blk_cell hm 0).trans rfl
  have HQ := Aside0.mk hc
  have HG := Aside0.mk hG
  clear h he hc hm hG
  go_enter Tryz.func88, Tryz.ntmps88
  go_wp2_with (go_at_call 93; (with_reducible refine (addr_domain_2.calls x c _ HQ.out).mono ?_); rintro e w1 ⟨rfl, hd1⟩; have HB1 := Lib.hid hd1.below; clear hd1)
  go_ret
  exact ⟨by simp, HB1.out⟩
theorem addr_domain_1__addr_domain_2.idx (l : List ByteArray) (r : Bool) (hl : l.length ≤ 9223372036854775807) (A : Option Addr) (c : Nat) (w : World) (hC : ReadsOf Value.string ByteArray.empty w A l.length l) (hG : Glob w) (Bi : Nat) (T : TypeId) (hm : w.heap[Bi]? = some (.cells #[.func (.func 93) #[] #[]] T (0, 0))) (h : anyF (fun x => addr_domain_1__addr_domain_2.p x) l = some r) :
    Calls Tryz.prog 102 #[.slice A l.length c, .func (.func 88) #[] #[.pointer (some ⟨Bi, 0, none⟩)]] w (IdxPost r w) := by
  have HC := Lib.hid hC
  have HG := Lib.hid hG
  have HM := Lib.hid hm
  have h' : Aside0 (anyF (fun x => addr_domain_1__addr_domain_2.p x) (l.drop 0) = some r) := ⟨h⟩
  clear hC h hG hm
  go_enter Tryz.func102, Tryz.ntmps102
  go_wp2
  go_loopw [8] (fun v8 w' => ∃ j : Nat, v8 = .int .i64 j ∧ j ≤ l.length ∧ Aside0 (anyF (fun x => addr_domain_1__addr_domain_2.p x) (l.drop j) = some r) ∧ Aside0 (Below w.heap.size w w')) (fun v8 _ => l.length - (intOf v8).toNat)
  case atStart => exact ⟨0, rfl, Nat.zero_le _, h', ⟨Below.refl _ _⟩⟩
  case round =>
    obtain ⟨j, rfl, hj, Hall, HB⟩ := hrel
    by_cases hlt : j < l.length
    · obtain ⟨ad, hA, hcell⟩ := (HC.out.below HB.out).at_ (j : Int) (by omega) (by omega)
      rw [Int.toNat_natCast] at hcell
      have ex : rdOf ByteArray.empty l (j : Int) = l[j]'hlt := by simp [rdOf, hlt]
      rw [ex] at hcell
      clear ex
      have hd := Hall.out
      rw [List.drop_eq_getElem_cons hlt] at hd
      obtain ⟨b, hb, hrest⟩ := anyF_cons hd
      have Hb := Lib.hid hb
      clear hb hd
      obtain ⟨x, hx⟩ : ∃ x : ByteArray, x = l[j]'hlt := ⟨_, rfl⟩
      rw [← hx] at hcell Hb
      clear hx
      rcases hrest with ⟨rfl, hr⟩ | ⟨rfl, hr⟩
      · have Hr := Lib.hid hr
        clear hr
        subst hA
        go_wp2_with (refine (addr_domain_1__addr_domain_2.clo x true _ (HG.out.below HB.out) Bi T (blk_below HM.out HB.out) Hb.out).mono ?_; rintro e w1 ⟨rfl, hb1⟩; have HB1 := Lib.hid hb1; clear hb1)
        go_ret
        refine ⟨(j : Int), rfl, ?_, HB.out.trans (HB1.out.mono HB.out.size)⟩
        rw [Hr.out]
        exact decide_eq_true (by omega)
      · have Hr := Aside0.mk hr
        clear hr
        subst hA
        go_wp2_with (refine (addr_domain_1__addr_domain_2.clo x false _ (HG.out.below HB.out) Bi T (blk_below HM.out HB.out) Hb.out).mono ?_; rintro e w1 ⟨rfl, hb1⟩; have HB1 := Lib.hid hb1; clear hb1)
        go_roundw
        case rel => exact ⟨j + 1, by go_num, hlt, Hr, ⟨HB.out.trans (HB1.out.mono HB.out.size)⟩⟩
        case measure => simp [intOf]; omega
    · go_wp2
      go_ret
      have hd := Hall.out
      rw [List.drop_of_length_le (by omega)] at hd
      have hr : false = r := Option.some.inj hd
      refine ⟨-1, rfl, ?_, HB.out⟩
      rw [← hr]; rfl
theorem addr_domain_1__addr_domain_2.cf (A0 : Option Addr) (c0 : Nat) (l0 : List ByteArray) (r : Bool) (w : World) (hr0 : Kd.C Kd.string w A0 l0.length l0) (hG : Glob w) (Bi : Nat) (T : TypeId) (hm : w.heap[Bi]? = some (.cells #[.func (.func 93) #[] #[]] T (0, 0))) (h : anyF (fun x => addr_domain_1__addr_domain_2.p x) l0 = some r) :
    Calls Tryz.prog 79 #[.slice A0 l0.length c0, .func (.func 88) #[] #[.pointer (some ⟨Bi, 0, none⟩)]] w fun e w' => e = .returned (.bool r) ∧ Below w.heap.size w w' := by
  have hrd : ReadsOf Value.string ByteArray.empty w A0 l0.length l0 := Kd.reads_of_C hr0
  have HI := Lib.hid (addr_domain_1__addr_domain_2.idx l0 r hrd.2.1 A0 c0 w hrd hG Bi T hm h)
  clear hrd hr0 h hG hm
  go_enter Tryz.func79, Tryz.ntmps79
  go_wp2_with (go_at_call 102; refine HI.out.mono ?_; rintro e w1 ⟨i, rfl, hi, hb⟩; have HB1 := Lib.hid hb; clear hb; have Hi := Lib.hid hi; clear hi)
  go_ret
  exact ⟨by have hi := Hi.out; simp [hi], HB1.out⟩
theorem addr_domain_1__addr_domain_2.calls (a0 : ByteArray) (r : Bool) (w : World) (hG : Glob w) (h : addr_domain_1__addr_domain_2.f a0 = some r) :
    Calls Tryz.prog 86 #[.string a0, .func (.func 93) #[] #[]] w fun e w' => e = .returned (.bool r) ∧ Below w.heap.size w w' := by
  obtain ⟨l, h1, h2⟩ := Option.bind_eq_some_iff.mp h
  obtain ⟨c, h3, h4⟩ := Option.bind_eq_some_iff.mp h2
  obtain rfl := Option.some.inj h4
  have HB := Aside0.mk (Below.refl w.heap.size w)
  have H1 := Aside0.mk h1
  have H3 := Aside0.mk h3
  have HG := Aside0.mk hG
  clear h h1 h2 h3 h4 hG
  go_enter Tryz.func86, Tryz.ntmps86
  go_wp2_with (first
    | (go_at_call 87; (with_reducible refine (strings_Split.calls a0 (⟨#[46]⟩ : ByteArray) l _ ?side1 H1.out).mono ?_); (case side1 => exact Glob.below HG.out (below_alloc HB.out _)); rintro e w1 ⟨v0_, rfl, hR, hb⟩; have HM := Aside0.mk (blk_below (blk_new w _) hb); have HB1 := Aside0.mk ((below_alloc HB.out _).trans (hb.mono (below_alloc HB.out _).size)); clear HB; have HR := Aside0.mk hR; clear hb hR; obtain ⟨Ao, co, eo⟩ := Kd.R_slice HR.out; subst eo)
    | (go_at_call 79; (with_reducible refine (addr_domain_1__addr_domain_2.cf _ _ l c _ (Kd.R_reads' HR.out).2.2 (Glob.below HG.out HB1.out) _ _ HM.out H3.out).mono ?_); rintro e w2 ⟨rfl, hb2⟩; have HB2 := Aside0.mk (HB1.out.trans (hb2.mono HB1.out.size)); clear hb2))
  go_ret
  exact ⟨by simp, HB2.out⟩


/-! ### addr_domain_1__addr_label: function 86 with function 92 (by hand) -/
def addr_domain_1__addr_label.p (x : ByteArray) : Option Bool := (addr_label.f x).bind fun b => some (!b)
def addr_domain_1__addr_label.f (a0 : ByteArray) : Option Bool := (strings_Split.f a0 (⟨#[46]⟩ : ByteArray)).bind fun l => (anyF (fun x => addr_domain_1__addr_label.p x) l).bind fun b => some (!b)
theorem addr_domain_1__addr_label.clo (x : ByteArray) (b : Bool) (w : World) (hG : Glob w) (Bi : Nat) (T : TypeId) (hm : w.heap[Bi]? = some (.cells #[.func (.func 92) #[] #[]] T (0, 0))) (h : addr_domain_1__addr_label.p x = some b) :
    Calls Tryz.prog 88 #[.string x, .pointer (some ⟨Bi, 0, none⟩)] w fun e w' => e = .returned (.bool b) ∧ Below w.heap.size w w' := by
  obtain ⟨c, hc, he⟩ := Option.bind_eq_some_iff.mp h
  obtain rfl := Option.some.inj he
  have hcell : w.cell? ⟨Bi, 0, none⟩ = some (.func (.func 92) #[] #[]) := (blk_cell hm 0).trans rfl
  have HQ := Aside0.mk hc
  have HG := Aside0.mk hG
  clear h he hc hm hG
  go_enter Tryz.func88, Tryz.ntmps88
  go_wp2_with (go_at_call 92; (with_reducible refine (addr_label.calls x c _ HQ.out).mono ?_); rintro e w1 ⟨rfl, hb1⟩; have HB1 := Lib.hid hb1; clear hb1)
  go_ret
  exact ⟨by simp, HB1.out⟩
theorem addr_domain_1__addr_label.idx (l : List ByteArray) (r : Bool) (hl : l.length ≤ 9223372036854775807) (A : Option Addr) (c : Nat) (w : World) (hC : ReadsOf Value.string ByteArray.empty w A l.length l) (hG : Glob w) (Bi : Nat) (T : TypeId) (hm : w.heap[Bi]? = some (.cells #[.func (.func 92) #[] #[]] T (0, 0))) (h : anyF (fun x => addr_domain_1__addr_label.p x) l = some r) :
    Calls Tryz.prog 102 #[.slice A l.length c, .func (.func 88) #[] #[.pointer (some ⟨Bi, 0, none⟩)]] w (IdxPost r w) := by
  have HC := Lib.hid hC
  have HG := Lib.hid hG
  have HM := Lib.hid hm
  have h' : Aside0 (anyF (fun x => addr_domain_1__addr_label.p x) (l.drop 0) = some r) := ⟨h⟩
  clear hC h hG hm
  go_enter Tryz.func102, Tryz.ntmps102
  go_wp2
  go_loopw [8] (fun v8 w' => ∃ j : Nat, v8 = .int .i64 j ∧ j ≤ l.length ∧ Aside0 (anyF (fun x => addr_domain_1__addr_label.p x) (l.drop j) = some r) ∧ Aside0 (Below w.heap.size w w')) (fun v8 _ => l.length - (intOf v8).toNat)
  case atStart => exact ⟨0, rfl, Nat.zero_le _, h', ⟨Below.refl _ _⟩⟩
  case round =>
    obtain ⟨j, rfl, hj, Hall, HB⟩ := hrel
    by_cases hlt : j < l.length
    · obtain ⟨ad, hA, hcell⟩ := (HC.out.below HB.out).at_ (j : Int) (by omega) (by omega)
      rw [Int.toNat_natCast] at hcell
      have ex : rdOf ByteArray.empty l (j : Int) = l[j]'hlt := by simp [rdOf, hlt]
      rw [ex] at hcell
      clear ex
      have hd := Hall.out
      rw [List.drop_eq_getElem_cons hlt] at hd
      obtain ⟨b, hb, hrest⟩ := anyF_cons hd
      have Hb := Lib.hid hb
      clear hb hd
      obtain ⟨x, hx⟩ : ∃ x : ByteArray, x = l[j]'hlt := ⟨_, rfl⟩
      rw [← hx] at hcell Hb
      clear hx
      rcases hrest with ⟨rfl, hr⟩ | ⟨rfl, hr⟩
      · have Hr := Lib.hid hr
        clear hr
        subst hA
        go_wp2_with (refine (addr_domain_1__addr_label.clo x true _ (HG.out.below HB.out) Bi T (blk_below HM.out HB.out) Hb.out).mono ?_; rintro e w1 ⟨rfl, hb1⟩; have HB1 := Lib.hid hb1; clear hb1)
        go_ret
        refine ⟨(j : Int), rfl, ?_, HB.out.trans (HB1.out.mono HB.out.size)⟩
        rw [Hr.out]
        exact decide_eq_true (by omega)
      · have Hr := Aside0.mk hr
        clear hr
        subst hA
        go_wp2_with (refine (addr_domain_1__addr_label.clo x false _ (HG.out.below HB.out) Bi T (blk_below HM.out HB.out) Hb.out).mono ?_; rintro e w1 ⟨rfl, hb1⟩; have HB1 := Lib.hid hb1; clear hb1)
        go_roundw
        case rel => exact ⟨j + 1, by go_num, hlt, Hr, ⟨HB.out.trans (HB1.out.mono HB.out.size)⟩⟩
        case measure => simp [intOf]; omega
    · go_wp2
      go_ret
      have hd := Hall.out
      rw [List.drop_of_length_le (by omega)] at hd
      have hr : false = r := Option.some.inj hd
      refine ⟨-1, rfl, ?_, HB.out⟩
      rw [← hr]; rfl
theorem addr_domain_1__addr_label.cf (A0 : Option Addr) (c0 : Nat) (l0 : List ByteArray) (r : Bool) (w : World) (hr0 : Kd.C Kd.string w A0 l0.length l0) (hG : Glob w) (Bi : Nat) (T : TypeId) (hm : w.heap[Bi]? = some (.cells #[.func (.func 92) #[] #[]] T (0, 0))) (h : anyF (fun x => addr_domain_1__addr_label.p x) l0 = some r) :
    Calls Tryz.prog 79 #[.slice A0 l0.length c0, .func (.func 88) #[] #[.pointer (some ⟨Bi, 0, none⟩)]] w fun e w' => e = .returned (.bool r) ∧ Below w.heap.size w w' := by
  have hrd : ReadsOf Value.string ByteArray.empty w A0 l0.length l0 := Kd.reads_of_C hr0
  have HI := Lib.hid (addr_domain_1__addr_label.idx l0 r hrd.2.1 A0 c0 w hrd hG Bi T hm h)
  clear hrd hr0 h hG hm
  go_enter Tryz.func79, Tryz.ntmps79
  go_wp2_with (go_at_call 102; refine HI.out.mono ?_; rintro e w1 ⟨i, rfl, hi, hb⟩; have HB1 := Lib.hid hb; clear hb; have Hi := Lib.hid hi; clear hi)
  go_ret
  exact ⟨by have hi := Hi.out; simp [hi], HB1.out⟩
theorem addr_domain_1__addr_label.calls (a0 : ByteArray) (r : Bool) (w : World) (hG : Glob w) (h : addr_domain_1__addr_label.f a0 = some r) :
    Calls Tryz.prog 86 #[.string a0, .func (.func 92) #[] #[]] w fun e w' => e = .returned (.bool r) ∧ Below w.heap.size w w' := by
  obtain ⟨l, h1, h2⟩ := Option.bind_eq_some_iff.mp h
  obtain ⟨c, h3, h4⟩ := Option.bind_eq_some_iff.mp h2
  obtain rfl := Option.some.inj h4
  have HB := Aside0.mk (Below.refl w.heap.size w)
  have H1 := Aside0.mk h1
  have H3 := Aside0.mk h3
  have HG := Aside0.mk hG
  clear h h1 h2 h3 h4 hG
  go_enter Tryz.func86, Tryz.ntmps86
  go_wp2_with (first
    | (go_at_call 87; (with_reducible refine (strings_Split.calls a0 (⟨#[46]⟩ : ByteArray) l _ ?side1 H1.out).mono ?_); (case side1 => exact Glob.below HG.out (below_alloc HB.out _)); rintro e w1 ⟨v0_, rfl, hR, hb⟩; have HM := Aside0.mk (blk_below (blk_new w _) hb); have HB1 := Aside0.mk ((below_alloc HB.out _).trans (hb.mono (below_alloc HB.out _).size)); clear HB; have HR := Aside0.mk hR; clear hb hR; obtain ⟨Ao, co, eo⟩ := Kd.R_slice HR.out; subst eo)
    | (go_at_call 79; (with_reducible refine (addr_domain_1__addr_label.cf _ _ l c _ (Kd.R_reads' HR.out).2.2 (Glob.below HG.out HB1.out) _ _ HM.out H3.out).mono ?_); rintro e w2 ⟨rfl, hb2⟩; have HB2 := Aside0.mk (HB1.out.trans (hb2.mono HB1.out.size)); clear hb2))
  go_ret
  exact ⟨by simp, HB2.out⟩


/-! ### addr_domain_1__addr_octet: function 86 with function 91 (by hand) -/
def addr_domain_1__addr_octet.p (x : ByteArray) : Option Bool := (addr_octet.f x).bind fun b => some (!b)
def addr_domain_1__addr_octet.f (a0 : ByteArray) : Option Bool := (strings_Split.f a0 (⟨#[46]⟩ : ByteArray)).bind fun l => (anyF (fun x => addr_domain_1__addr_octet.p x) l).bind fun b => some (!b)
theorem addr_domain_1__addr_octet.clo (x : ByteArray) (b : Bool) (w : World) (hG : Glob w) (Bi : Nat) (T : TypeId) (hm : w.heap[Bi]? = some (.cells #[.func (.func 91) #[] #[]] T (0, 0))) (h : addr_domain_1__addr_octet.p x = some b) :
    Calls Tryz.prog 88 #[.string x, .pointer (some ⟨Bi, 0, none⟩)] w fun e w' => e = .returned (.bool b) ∧ Below w.heap.size w w' := by
  obtain ⟨c, hc, he⟩ := Option.bind_eq_some_iff.mp h
  obtain rfl := Option.some.inj he
  have hcell : w.cell? ⟨Bi, 0, none⟩ = some (.func (.func 91) #[] #[]) := (blk_cell hm 0).trans rfl
  have HQ := Aside0.mk hc
  have HG := Aside0.mk hG
  clear h he hc hm hG
  go_enter Tryz.func88, Tryz.ntmps88
  go_wp2_with (go_at_call 91; (with_reducible refine (addr_octet.calls x c _ HG.out HQ.out).mono ?_); rintro e w1 ⟨rfl, hb1⟩; have HB1 := Lib.hid hb1; clear hb1)
  go_ret
  exact ⟨by simp, HB1.out⟩
theorem addr_domain_1__addr_octet.idx (l : List ByteArray) (r : Bool) (hl : l.length ≤ 9223372036854775807) (A : Option Addr) (c : Nat) (w : World) (hC : ReadsOf Value.string ByteArray.empty w A l.length l) (hG : Glob w) (Bi : Nat) (T : TypeId) (hm : w.heap[Bi]? = some (.cells #[.func (.func 91) #[] #[]] T (0, 0))) (h : anyF (fun x => addr_domain_1__addr_octet.p x) l = some r) :
    Calls Tryz.prog 102 #[.slice A l.length c, .func (.func 88) #[] #[.pointer (some ⟨Bi, 0, none⟩)]] w (IdxPost r w) := by
  have HC := Lib.hid hC
  have HG := Lib.hid hG
  have HM := Lib.hid hm
  have h' : Aside0 (anyF (fun x => addr_domain_1__addr_octet.p x) (l.drop 0) = some r) := ⟨h⟩
  clear hC h hG hm
  go_enter Tryz.func102, Tryz.ntmps102
  go_wp2
  go_loopw [8] (fun v8 w' => ∃ j : Nat, v8 = .int .i64 j ∧ j ≤ l.length ∧ Aside0 (anyF (fun x => addr_domain_1__addr_octet.p x) (l.drop j) = some r) ∧ Aside0 (Below w.heap.size w w')) (fun v8 _ => l.length - (intOf v8).toNat)
  case atStart => exact ⟨0, rfl, Nat.zero_le _, h', ⟨Below.refl _ _⟩⟩
  case round =>
    obtain ⟨j, rfl, hj, Hall, HB⟩ := hrel
    by_cases hlt : j < l.length
    · obtain ⟨ad, hA, hcell⟩ := (HC.out.below HB.out).at_ (j : Int) (by omega) (by omega)
      rw [Int.toNat_natCast] at hcell
      have ex : rdOf ByteArray.empty l (j : Int) = l[j]'hlt := by simp [rdOf, hlt]
      rw [ex] at hcell
      clear ex
      have hd := Hall.out
      rw [List.drop_eq_getElem_cons hlt] at hd
      obtain ⟨b, hb, hrest⟩ := anyF_cons hd
      have Hb := Lib.hid hb
      clear hb hd
      obtain ⟨x, hx⟩ : ∃ x : ByteArray, x = l[j]'hlt := ⟨_, rfl⟩
      rw [← hx] at hcell Hb
      clear hx
      rcases hrest with ⟨rfl, hr⟩ | ⟨rfl, hr⟩
      · have Hr := Lib.hid hr
        clear hr
        subst hA
        go_wp2_with (refine (addr_domain_1__addr_octet.clo x true _ (HG.out.below HB.out) Bi T (blk_below HM.out HB.out) Hb.out).mono ?_; rintro e w1 ⟨rfl, hb1⟩; have HB1 := Lib.hid hb1; clear hb1)
        go_ret
        refine ⟨(j : Int), rfl, ?_, HB.out.trans (HB1.out.mono HB.out.size)⟩
        rw [Hr.out]
        exact decide_eq_true (by omega)
      · have Hr := Aside0.mk hr
        clear hr
        subst hA
        go_wp2_with (refine (addr_domain_1__addr_octet.clo x false _ (HG.out.below HB.out) Bi T (blk_below HM.out HB.out) Hb.out).mono ?_; rintro e w1 ⟨rfl, hb1⟩; have HB1 := Lib.hid hb1; clear hb1)
        go_roundw
        case rel => exact ⟨j + 1, by go_num, hlt, Hr, ⟨HB.out.trans (HB1.out.mono HB.out.size)⟩⟩
        case measure => simp [intOf]; omega
    · go_wp2
      go_ret
      have hd := Hall.out
      rw [List.drop_of_length_le (by omega)] at hd
      have hr : false = r := Option.some.inj hd
      refine ⟨-1, rfl, ?_, HB.out⟩
      rw [← hr]; rfl
theorem addr_domain_1__addr_octet.cf (A0 : Option Addr) (c0 : Nat) (l0 : List ByteArray) (r : Bool) (w : World) (hr0 : Kd.C Kd.string w A0 l0.length l0) (hG : Glob w) (Bi : Nat) (T : TypeId) (hm : w.heap[Bi]? = some (.cells #[.func (.func 91) #[] #[]] T (0, 0))) (h : anyF (fun x => addr_domain_1__addr_octet.p x) l0 = some r) :
    Calls Tryz.prog 79 #[.slice A0 l0.length c0, .func (.func 88) #[] #[.pointer (some ⟨Bi, 0, none⟩)]] w fun e w' => e = .returned (.bool r) ∧ Below w.heap.size w w' := by
  have hrd : ReadsOf Value.string ByteArray.empty w A0 l0.length l0 := Kd.reads_of_C hr0
  have HI := Lib.hid (addr_domain_1__addr_octet.idx l0 r hrd.2.1 A0 c0 w hrd hG Bi T hm h)
  clear hrd hr0 h hG hm
  go_enter Tryz.func79, Tryz.ntmps79
  go_wp2_with (go_at_call 102; refine HI.out.mono ?_; rintro e w1 ⟨i, rfl, hi, hb⟩; have HB1 := Lib.hid hb; clear hb; have Hi := Lib.hid hi; clear hi)
  go_ret
  exact ⟨by have hi := Hi.out; simp [hi], HB1.out⟩
theorem addr_domain_1__addr_octet.calls (a0 : ByteArray) (r : Bool) (w : World) (hG : Glob w) (h : addr_domain_1__addr_octet.f a0 = some r) :
    Calls Tryz.prog 86 #[.string a0, .func (.func 91) #[] #[]] w fun e w' => e = .returned (.bool r) ∧ Below w.heap.size w w' := by
  obtain ⟨l, h1, h2⟩ := Option.bind_eq_some_iff.mp h
  obtain ⟨c, h3, h4⟩ := Option.bind_eq_some_iff.mp h2
  obtain rfl := Option.some.inj h4
  have HB := Aside0.mk (Below.refl w.heap.size w)
  have H1 := Aside0.mk h1
  have H3 := Aside0.mk h3
  have HG := Aside0.mk hG
  clear h h1 h2 h3 h4 hG
  go_enter Tryz.func86, Tryz.ntmps86
  go_wp2_with (first
    | (go_at_call 87; (with_reducible refine (strings_Split.calls a0 (⟨#[46]⟩ : ByteArray) l _ ?side1 H1.out).mono ?_); (case side1 => exact Glob.below HG.out (below_alloc HB.out _)); rintro e w1 ⟨v0_, rfl, hR, hb⟩; have HM := Aside0.mk (blk_below (blk_new w _) hb); have HB1 := Aside0.mk ((below_alloc HB.out _).trans (hb.mono (below_alloc HB.out _).size)); clear HB; have HR := Aside0.mk hR; clear hb hR; obtain ⟨Ao, co, eo⟩ := Kd.R_slice HR.out; subst eo)
    | (go_at_call 79; (with_reducible refine (addr_domain_1__addr_octet.cf _ _ l c _ (Kd.R_reads' HR.out).2.2 (Glob.below HG.out HB1.out) _ _ HM.out H3.out).mono ?_); rintro e w2 ⟨rfl, hb2⟩; have HB2 := Aside0.mk (HB1.out.trans (hb2.mono HB1.out.size)); clear hb2))
  go_ret
  exact ⟨by simp, HB2.out⟩


end Go.Proofs.YtgelfnjicglmbaaGreatDoor.Q
end
section
namespace Go.Proofs.YtgelfnjicglmbaaGreatDoor.Q

/-! ### stringslite_HasSuffix: function 36 -/
def stringslite_HasSuffix.f (a0 : ByteArray) (a1 : ByteArray) : Option (Bool) := if (a0.size : Int) ≥ (a1.size : Int) then (if 0 ≤ (wrap64 ((a0.size : Int) - (a1.size : Int))) then (if (wrap64 ((a0.size : Int) - (a1.size : Int))) ≤ (a0.size : Int) then (some ((a0.extract ((wrap64 ((a0.size : Int) - (a1.size : Int))) : Int).toNat a0.size).toList == a1.toList)) else (none)) else (none)) else (some false)
theorem stringslite_HasSuffix.calls (a0 : ByteArray) (a1 : ByteArray) (r : Bool) (w : World) (h : stringslite_HasSuffix.f a0 a1 = some r) :
  Calls Tryz.prog 36 #[.string a0, .string a1] w fun e w' => e = .returned (.bool r) ∧ Drawn0 w w' := by
 have H : (if (a0.size : Int) ≥ (a1.size : Int) then (if 0 ≤ (wrap64 ((a0.size : Int) - (a1.size : Int))) then (if (wrap64 ((a0.size : Int) - (a1.size : Int))) ≤ (a0.size : Int) then (some ((a0.extract ((wrap64 ((a0.size : Int) - (a1.size : Int))) : Int).toNat a0.size).toList == a1.toList)) else (none)) else (none)) else (some false)) = some r := h
 clear h
 by_cases c3 : (a0.size : Int) ≥ (a1.size : Int)
 ·rw [if_pos c3] at H
  have c3b0 : decide ((a1.size : Int) ≤ (a0.size : Int)) = true := decide_eq_true c3
  have c3b1 : decide (a1.size ≤ a0.size) = true := decide_eq_true (Int.ofNat_le.mp c3)
  clear c3
  obtain ⟨ji4, hji4⟩ : ∃ j_ : Int, (wrap64 ((a0.size : Int) - (a1.size : Int))) = j_ := ⟨_, rfl⟩
  replace H : (if 0 ≤ (ji4) then (if (ji4) ≤ (a0.size : Int) then (some ((a0.extract ((ji4) : Int).toNat a0.size).toList == a1.toList)) else (none)) else (none)) = some r := by first | (rw [hji4] at H; exact H) | (simp only [hji4] at H ⊢; exact H)
  have hji4w : (IntKind.i64.wrap ((a0.size : Int) - (a1.size : Int))) = ji4 := (i64_w _).trans hji4
  by_cases c5 : 0 ≤ (ji4)
  rotate_left
  ·rw [if_neg c5] at H
   exact ab H
  rw [if_pos c5] at H
  have c5b0 := eq_true c5
  have c5b1 : decide (0 ≤ (ji4)) = true := decide_eq_true c5
  clear c5
  by_cases c6 : (ji4) ≤ (a0.size : Int)
  rotate_left
  ·rw [if_neg c6] at H
   exact ab H
  rw [if_pos c6] at H
  have c6b0 := eq_true c6
  have c6b1 : decide ((ji4) ≤ (a0.size : Int)) = true := decide_eq_true c6
  clear c6
  obtain rfl := Option.some.inj H
  go_enter Tryz.func36, Tryz.ntmps36
  go_wp2
  go_ret
  exact ⟨by first | rfl | (simp [bneNil]; done) | (simp; done) | (simp only [← hji4] <;> (first | rfl | simp)) | (simp [*]; done), dr⟩
 ·rw [if_neg c3] at H
  have c3b0 : decide ((a1.size : Int) ≤ (a0.size : Int)) = false := decide_eq_false c3
  have c3b1 : decide (a1.size ≤ a0.size) = false := decide_eq_false (fun h => c3 (Int.ofNat_le.mpr h))
  clear c3
  obtain rfl := Option.some.inj H
  go_enter Tryz.func36, Tryz.ntmps36
  go_wp2
  go_ret
  exact ⟨by first | rfl | (simp [bneNil]; done) | (simp; done) | (simp [*]; done), dr⟩

/-! ### stringslite_CutSuffix: function 108 -/
def stringslite_CutSuffix.f (a0 : ByteArray) (a1 : ByteArray) : Option (ByteArray × Bool) := (stringslite_HasSuffix.f a0 a1).bind fun t108 => (if t108 = true then (if 0 ≤ (wrap64 ((a0.size : Int) - (a1.size : Int))) then (if (wrap64 ((a0.size : Int) - (a1.size : Int))) ≤ (a0.size : Int) then (some (a0.extract 0 ((wrap64 ((a0.size : Int) - (a1.size : Int))) : Int).toNat, true)) else (none)) else (none)) else (some (a0, false)))
theorem stringslite_CutSuffix.calls (a0 : ByteArray) (a1 : ByteArray) (r1 : ByteArray) (r2 : Bool) (w : World) (h : stringslite_CutSuffix.f a0 a1 = some (r1, r2)) :
  Calls Tryz.prog 108 #[.string a0, .string a1] w fun e w' => e = .returned (.tuple #[.string r1, .bool r2]) ∧ Drawn0 w w' := by
 have H : ((stringslite_HasSuffix.f a0 a1).bind fun t108 => (if t108 = true then (if 0 ≤ (wrap64 ((a0.size : Int) - (a1.size : Int))) then (if (wrap64 ((a0.size : Int) - (a1.size : Int))) ≤ (a0.size : Int) then (some (a0.extract 0 ((wrap64 ((a0.size : Int) - (a1.size : Int))) : Int).toNat, true)) else (none)) else (none)) else (some (a0, false)))) = some (r1, r2) := h
 clear h
 obtain ⟨t108, A30, H⟩ := Option.bind_eq_some_iff.mp H
 replace H : (if t108 = true then (if 0 ≤ (wrap64 ((a0.size : Int) - (a1.size : Int))) then (if (wrap64 ((a0.size : Int) - (a1.size : Int))) ≤ (a0.size : Int) then (some (a0.extract 0 ((wrap64 ((a0.size : Int) - (a1.size : Int))) : Int).toNat, true)) else (none)) else (none)) else (some (a0, false))) = some (r1, r2) := H
 have A3 := Aside0.mk A30
 clear A30
 by_cases c4 : t108 = true
 ·subst c4
  replace H : (if 0 ≤ (wrap64 ((a0.size : Int) - (a1.size : Int))) then (if (wrap64 ((a0.size : Int) - (a1.size : Int))) ≤ (a0.size : Int) then (some (a0.extract 0 ((wrap64 ((a0.size : Int) - (a1.size : Int))) : Int).toNat, true)) else (none)) else (none)) = some (r1, r2) := by rw [if_pos rfl] at H; exact H
  obtain ⟨ji5, hji5⟩ : ∃ j_ : Int, (wrap64 ((a0.size : Int) - (a1.size : Int))) = j_ := ⟨_, rfl⟩
  replace H : (if 0 ≤ (ji5) then (if (ji5) ≤ (a0.size : Int) then (some (a0.extract 0 ((ji5) : Int).toNat, true)) else (none)) else (none)) = some (r1, r2) := by first | (rw [hji5] at H; exact H) | (simp only [hji5] at H ⊢; exact H)
  (try rw [hji5] at A3)
  have hji5w : (IntKind.i64.wrap ((a0.size : Int) - (a1.size : Int))) = ji5 := (i64_w _).trans hji5
  by_cases c6 : 0 ≤ (ji5)
  rotate_left
  ·rw [if_neg c6] at H
   exact ab H
  rw [if_pos c6] at H
  have c6b0 := eq_true c6
  have c6b1 : decide (0 ≤ (ji5)) = true := decide_eq_true c6
  clear c6
  by_cases c7 : (ji5) ≤ (a0.size : Int)
  rotate_left
  ·rw [if_neg c7] at H
   exact ab H
  rw [if_pos c7] at H
  have c7b0 := eq_true c7
  have c7b1 : decide ((ji5) ≤ (a0.size : Int)) = true := decide_eq_true c7
  clear c7
  simp only [Option.some.injEq, Prod.mk.injEq] at H
  obtain ⟨rfl, rfl⟩ := H
  go_enter Tryz.func108, Tryz.ntmps108
  go_wp2_with (first | ((with_reducible refine gate_callee (f := 36) rfl ?_); refine goesL_ (some 8) rfl rfl Tryz.func36 kf rfl #[.string a0, .string a1] rfl ml ?_; (with_reducible refine (stringslite_HasSuffix.calls a0 a1 true _ A3.out).mono ?_); rintro e w' ⟨rfl, ⟨nd, rfl⟩⟩; refine ⟨_, rfl, ?_⟩))
  go_ret2
  exact ⟨by first | rfl | (simp [bneNil]; done) | (simp; done) | (simp only [← hji5] <;> (first | rfl | simp)) | (simp [*]; done), dr⟩
 ·replace c4 := Bool.eq_false_iff.mpr c4
  subst c4
  replace H : (some (a0, false)) = some (r1, r2) := by rw [if_neg (show ¬ (false = true) by decide)] at H; exact H
  simp only [Option.some.injEq, Prod.mk.injEq] at H
  obtain ⟨rfl, rfl⟩ := H
  go_enter Tryz.func108, Tryz.ntmps108
  go_wp2_with (first | ((with_reducible refine gate_callee (f := 36) rfl ?_); refine goesL_ (some 8) rfl rfl Tryz.func36 kf rfl #[.string a0, .string a1] rfl ml ?_; (with_reducible refine (stringslite_HasSuffix.calls a0 a1 false _ A3.out).mono ?_); rintro e w' ⟨rfl, ⟨nd, rfl⟩⟩; refine ⟨_, rfl, ?_⟩))
  go_ret2
  exact ⟨by first | rfl | (simp [bneNil]; done) | (simp; done) | (simp [*]; done), dr⟩

/-! ### strings_CutSuffix: function 89 -/
def strings_CutSuffix.f (a0 : ByteArray) (a1 : ByteArray) : Option (ByteArray × Bool) := (stringslite_CutSuffix.f a0 a1).bind fun bt109 => (some (bt109.1, bt109.2))
theorem strings_CutSuffix.calls (a0 : ByteArray) (a1 : ByteArray) (r1 : ByteArray) (r2 : Bool) (w : World) (h : strings_CutSuffix.f a0 a1 = some (r1, r2)) :
  Calls Tryz.prog 89 #[.string a0, .string a1] w fun e w' => e = .returned (.tuple #[.string r1, .bool r2]) ∧ Drawn0 w w' := by
 have H : ((stringslite_CutSuffix.f a0 a1).bind fun bt109 => (some (bt109.1, bt109.2))) = some (r1, r2) := h
 clear h
 obtain ⟨⟨t109, t110⟩, A30, H⟩ := Option.bind_eq_some_iff.mp H
 replace H : (some (t109, t110)) = some (r1, r2) := H
 have A3 := Aside0.mk A30
 clear A30
 simp only [Option.some.injEq, Prod.mk.injEq] at H
 obtain ⟨rfl, rfl⟩ := H
 go_enter Tryz.func89, Tryz.ntmps89
 go_wp2_with (first | ((with_reducible refine gate_callee (f := 108) rfl ?_); refine goesL_ (some 8) rfl rfl Tryz.func108 kf rfl #[.string a0, .string a1] rfl ml ?_; (with_reducible refine (stringslite_CutSuffix.calls a0 a1 t109 t110 _ A3.out).mono ?_); rintro e w' ⟨rfl, ⟨nd, rfl⟩⟩; refine ⟨_, rfl, ?_⟩))
 go_ret2
 exact ⟨by first | rfl | (simp [bneNil]; done) | (simp; done) | (simp [*]; done), dr⟩

/-! ### strings_Count: function 90 (by hand) -/
def strings_Count.f (a0 a1 : ByteArray) : Option Int := match a1.data.toList with | [c] => some (Lib.countByte a0.data.toList c) | _ => none
theorem strings_Count.calls (a0 a1 : ByteArray) (r : Int) (w : World) (h : strings_Count.f a0 a1 = some r) :
    Calls Tryz.prog 90 #[.string a0, .string a1] w fun e w' => e = .returned (.int .i64 r) ∧ Drawn0 w w' := by
  unfold strings_Count.f at h
  split at h
  · rename_i c hc
    obtain rfl := Option.some.inj h
    obtain rfl : a1 = ⟨#[c]⟩ := by
      obtain ⟨⟨l⟩⟩ := a1
      simp at hc
      rw [hc]
    refine (Tryz.strings_Count_one a0 c w).mono ?_
    rintro e w' ⟨rfl, rfl⟩
    exact ⟨rfl, Drawn0.refl _⟩
  · cases h


/-! ### addr_domain: function 59 -/
def addr_domain.f (a0 : ByteArray) : Option (Int) := (strings_CutPrefix.f a0 (⟨#[91]⟩ : ByteArray)).bind fun bt111 => (if bt111.2 = true then ((strings_CutSuffix.f bt111.1 (⟨#[93]⟩ : ByteArray)).bind fun bt113 => (if bt113.2 = true then ((strings_Count.f bt113.1 (⟨#[46]⟩ : ByteArray)).bind fun t115 => (if t115 = 3 then ((addr_domain_1__addr_octet.f bt113.1).bind fun t116 => (if t116 = true then (some 0) else (some 5))) else (some 5))) else (some 5))) else ((addr_domain_1__addr_label.f a0).bind fun t117 => (if t117 = true then (if (a0.size : Int) > 255 then (some 3) else ((addr_domain_1__addr_domain_2.f a0).bind fun t118 => (if t118 = true then (some 0) else (some 3)))) else (some 5))))
theorem addr_domain.calls (a0 : ByteArray) (r : Int) (w : World) (hG : Glob w) (h : addr_domain.f a0 = some r) :
  Calls Tryz.prog 59 #[.string a0] w fun e w' => e = .returned (.int .i64 r) ∧ Below w.heap.size w w' := by
 have HB := Aside0.mk (Below.refl w.heap.size w)
 have HG := Aside0.mk hG
 clear hG
 have H : ((strings_CutPrefix.f a0 (⟨#[91]⟩ : ByteArray)).bind fun bt111 => (if bt111.2 = true then ((strings_CutSuffix.f bt111.1 (⟨#[93]⟩ : ByteArray)).bind fun bt113 => (if bt113.2 = true then ((strings_Count.f bt113.1 (⟨#[46]⟩ : ByteArray)).bind fun t115 => (if t115 = 3 then ((addr_domain_1__addr_octet.f bt113.1).bind fun t116 => (if t116 = true then (some 0) else (some 5))) else (some 5))) else (some 5))) else ((addr_domain_1__addr_label.f a0).bind fun t117 => (if t117 = true then (if (a0.size : Int) > 255 then (some 3) else ((addr_domain_1__addr_domain_2.f a0).bind fun t118 => (if t118 = true then (some 0) else (some 3)))) else (some 5))))) = some r := h
 clear h
 obtain ⟨⟨t111, t112⟩, A20, H⟩ := Option.bind_eq_some_iff.mp H
 replace H : (if t112 = true then ((strings_CutSuffix.f t111 (⟨#[93]⟩ : ByteArray)).bind fun bt113 => (if bt113.2 = true then ((strings_Count.f bt113.1 (⟨#[46]⟩ : ByteArray)).bind fun t115 => (if t115 = 3 then ((addr_domain_1__addr_octet.f bt113.1).bind fun t116 => (if t116 = true then (some 0) else (some 5))) else (some 5))) else (some 5))) else ((addr_domain_1__addr_label.f a0).bind fun t117 => (if t117 = true then (if (a0.size : Int) > 255 then (some 3) else ((addr_domain_1__addr_domain_2.f a0).bind fun t118 => (if t118 = true then (some 0) else (some 3)))) else (some 5)))) = some r := H
 have A2 := Aside0.mk A20
 clear A20
 by_cases c3 : t112 = true
 ·subst c3
  replace H : ((strings_CutSuffix.f t111 (⟨#[93]⟩ : ByteArray)).bind fun bt113 => (if bt113.2 = true then ((strings_Count.f bt113.1 (⟨#[46]⟩ : ByteArray)).bind fun t115 => (if t115 = 3 then ((addr_domain_1__addr_octet.f bt113.1).bind fun t116 => (if t116 = true then (some 0) else (some 5))) else (some 5))) else (some 5))) = some r := by rw [if_pos rfl] at H; exact H
  obtain ⟨⟨t113, t114⟩, A40, H⟩ := Option.bind_eq_some_iff.mp H
  replace H : (if t114 = true then ((strings_Count.f t113 (⟨#[46]⟩ : ByteArray)).bind fun t115 => (if t115 = 3 then ((addr_domain_1__addr_octet.f t113).bind fun t116 => (if t116 = true then (some 0) else (some 5))) else (some 5))) else (some 5)) = some r := H
  have A4 := Aside0.mk A40
  clear A40
  by_cases c5 : t114 = true
  ·subst c5
   replace H : ((strings_Count.f t113 (⟨#[46]⟩ : ByteArray)).bind fun t115 => (if t115 = 3 then ((addr_domain_1__addr_octet.f t113).bind fun t116 => (if t116 = true then (some 0) else (some 5))) else (some 5))) = some r := by rw [if_pos rfl] at H; exact H
   obtain ⟨t115, A60, H⟩ := Option.bind_eq_some_iff.mp H
   replace H : (if t115 = 3 then ((addr_domain_1__addr_octet.f t113).bind fun t116 => (if t116 = true then (some 0) else (some 5))) else (some 5)) = some r := H
   have A6 := Aside0.mk A60
   clear A60
   by_cases c7 : t115 = 3
   ·rw [if_pos c7] at H
    have c7b0 : (t115 == 3) = true := beq_iff_eq.mpr c7
    have c7b1 : (t115 != 3) = false := bne_eq_false_iff_eq.mpr c7
    clear c7
    obtain ⟨t116, A80, H⟩ := Option.bind_eq_some_iff.mp H
    replace H : (if t116 = true then (some 0) else (some 5)) = some r := H
    have A8 := Aside0.mk A80
    clear A80
    by_cases c9 : t116 = true
    ·subst c9
     replace H : (some 0) = some r := by rw [if_pos rfl] at H; exact H
     obtain rfl := Option.some.inj H
     go_enter Tryz.func59, Tryz.ntmps59
     go_wp2_with (first | ((with_reducible refine gate_callee (f := 30) rfl ?_); refine goesL_ (some 10) rfl rfl Tryz.func30 kf rfl #[.string a0, .string (⟨#[91]⟩ : ByteArray)] rfl ml ?_; (with_reducible refine (strings_CutPrefix.calls a0 (⟨#[91]⟩ : ByteArray) t111 true _ A2.out).mono ?_); rintro e w' ⟨rfl, ⟨nd, rfl⟩⟩; refine ⟨_, rfl, ?_⟩) | ((with_reducible refine gate_callee (f := 89) rfl ?_); refine goesL_ (some 16) rfl rfl Tryz.func89 kf rfl #[.string t111, .string (⟨#[93]⟩ : ByteArray)] rfl ml ?_; (with_reducible refine (strings_CutSuffix.calls t111 (⟨#[93]⟩ : ByteArray) t113 true _ A4.out).mono ?_); rintro e w' ⟨rfl, ⟨nd, rfl⟩⟩; refine ⟨_, rfl, ?_⟩) | (go_at_call 90; (with_reducible refine (strings_Count.calls t113 (⟨#[46]⟩ : ByteArray) t115 _ A6.out).mono ?_); rintro e w' ⟨rfl, ⟨nd, rfl⟩⟩) | (go_at_call 86; (with_reducible refine (addr_domain_1__addr_octet.calls t113 true _ ?side1 A8.out).mono ?_); (case side1 => exact Glob.below HG.out bl); rintro e w10 ⟨rfl, hb⟩; replace HB := Aside0.mk (below_step bl hb); (try clear hb); (try clear hb2); (try clear hk); (try clear hi)))
     go_ret
     exact ⟨rf, bl⟩
    ·replace c9 := Bool.eq_false_iff.mpr c9
     subst c9
     replace H : (some 5) = some r := by rw [if_neg (show ¬ (false = true) by decide)] at H; exact H
     obtain rfl := Option.some.inj H
     go_enter Tryz.func59, Tryz.ntmps59
     go_wp2_with (first | ((with_reducible refine gate_callee (f := 30) rfl ?_); refine goesL_ (some 10) rfl rfl Tryz.func30 kf rfl #[.string a0, .string (⟨#[91]⟩ : ByteArray)] rfl ml ?_; (with_reducible refine (strings_CutPrefix.calls a0 (⟨#[91]⟩ : ByteArray) t111 true _ A2.out).mono ?_); rintro e w' ⟨rfl, ⟨nd, rfl⟩⟩; refine ⟨_, rfl, ?_⟩) | ((with_reducible refine gate_callee (f := 89) rfl ?_); refine goesL_ (some 16) rfl rfl Tryz.func89 kf rfl #[.string t111, .string (⟨#[93]⟩ : ByteArray)] rfl ml ?_; (with_reducible refine (strings_CutSuffix.calls t111 (⟨#[93]⟩ : ByteArray) t113 true _ A4.out).mono ?_); rintro e w' ⟨rfl, ⟨nd, rfl⟩⟩; refine ⟨_, rfl, ?_⟩) | (go_at_call 90; (with_reducible refine (strings_Count.calls t113 (⟨#[46]⟩ : ByteArray) t115 _ A6.out).mono ?_); rintro e w' ⟨rfl, ⟨nd, rfl⟩⟩) | (go_at_call 86; (with_reducible refine (addr_domain_1__addr_octet.calls t113 false _ ?side1 A8.out).mono ?_); (case side1 => exact Glob.below HG.out bl); rintro e w11 ⟨rfl, hb⟩; replace HB := Aside0.mk (below_step bl hb); (try clear hb); (try clear hb2); (try clear hk); (try clear hi)))
     go_ret
     exact ⟨rf, bl⟩
   ·rw [if_neg c7] at H
    have c7b0 : (t115 == 3) = false := beq_eq_false_iff_ne.mpr c7
    have c7b1 : (t115 != 3) = true := bne_iff_ne.mpr c7
    obtain rfl := Option.some.inj H
    go_enter Tryz.func59, Tryz.ntmps59
    go_wp2_with (first | ((with_reducible refine gate_callee (f := 30) rfl ?_); refine goesL_ (some 10) rfl rfl Tryz.func30 kf rfl #[.string a0, .string (⟨#[91]⟩ : ByteArray)] rfl ml ?_; (with_reducible refine (strings_CutPrefix.calls a0 (⟨#[91]⟩ : ByteArray) t111 true _ A2.out).mono ?_); rintro e w' ⟨rfl, ⟨nd, rfl⟩⟩; refine ⟨_, rfl, ?_⟩) | ((with_reducible refine gate_callee (f := 89) rfl ?_); refine goesL_ (some 16) rfl rfl Tryz.func89 kf rfl #[.string t111, .string (⟨#[93]⟩ : ByteArray)] rfl ml ?_; (with_reducible refine (strings_CutSuffix.calls t111 (⟨#[93]⟩ : ByteArray) t113 true _ A4.out).mono ?_); rintro e w' ⟨rfl, ⟨nd, rfl⟩⟩; refine ⟨_, rfl, ?_⟩) | (go_at_call 90; (with_reducible refine (strings_Count.calls t113 (⟨#[46]⟩ : ByteArray) t115 _ A6.out).mono ?_); rintro e w' ⟨rfl, ⟨nd, rfl⟩⟩))
    go_ret
    exact ⟨rf, bl⟩
  ·replace c5 := Bool.eq_false_iff.mpr c5
   subst c5
   replace H : (some 5) = some r := by rw [if_neg (show ¬ (false = true) by decide)] at H; exact H
   obtain rfl := Option.some.inj H
   go_enter Tryz.func59, Tryz.ntmps59
   go_wp2_with (first | ((with_reducible refine gate_callee (f := 30) rfl ?_); refine goesL_ (some 10) rfl rfl Tryz.func30 kf rfl #[.string a0, .string (⟨#[91]⟩ : ByteArray)] rfl ml ?_; (with_reducible refine (strings_CutPrefix.calls a0 (⟨#[91]⟩ : ByteArray) t111 true _ A2.out).mono ?_); rintro e w' ⟨rfl, ⟨nd, rfl⟩⟩; refine ⟨_, rfl, ?_⟩) | ((with_reducible refine gate_callee (f := 89) rfl ?_); refine goesL_ (some 16) rfl rfl Tryz.func89 kf rfl #[.string t111, .string (⟨#[93]⟩ : ByteArray)] rfl ml ?_; (with_reducible refine (strings_CutSuffix.calls t111 (⟨#[93]⟩ : ByteArray) t113 false _ A4.out).mono ?_); rintro e w' ⟨rfl, ⟨nd, rfl⟩⟩; refine ⟨_, rfl, ?_⟩))
   go_ret
   exact ⟨rf, bl⟩
 ·replace c3 := Bool.eq_false_iff.mpr c3
  subst c3
  replace H : ((addr_domain_1__addr_label.f a0).bind fun t117 => (if t117 = true then (if (a0.size : Int) > 255 then (some 3) else ((addr_domain_1__addr_domain_2.f a0).bind fun t118 => (if t118 = true then (some 0) else (some 3)))) else (some 5))) = some r := by rw [if_neg (show ¬ (false = true) by decide)] at H; exact H
  obtain ⟨t117, A120, H⟩ := Option.bind_eq_some_iff.mp H
  replace H : (if t117 = true then (if (a0.size : Int) > 255 then (some 3) else ((addr_domain_1__addr_domain_2.f a0).bind fun t118 => (if t118 = true then (some 0) else (some 3)))) else (some 5)) = some r := H
  have A12 := Aside0.mk A120
  clear A120
  by_cases c13 : t117 = true
  ·subst c13
   replace H : (if (a0.size : Int) > 255 then (some 3) else ((addr_domain_1__addr_domain_2.f a0).bind fun t118 => (if t118 = true then (some 0) else (some 3)))) = some r := by rw [if_pos rfl] at H; exact H
   by_cases c14 : (a0.size : Int) > 255
   ·rw [if_pos c14] at H
    have c14b0 : decide (255 < (a0.size : Int)) = true := decide_eq_true c14
    have c14b1 : decide (255 < a0.size) = true := decide_eq_true (by omega)
    clear c14
    obtain rfl := Option.some.inj H
    go_enter Tryz.func59, Tryz.ntmps59
    go_wp2_with (first | ((with_reducible refine gate_callee (f := 30) rfl ?_); refine goesL_ (some 10) rfl rfl Tryz.func30 kf rfl #[.string a0, .string (⟨#[91]⟩ : ByteArray)] rfl ml ?_; (with_reducible refine (strings_CutPrefix.calls a0 (⟨#[91]⟩ : ByteArray) t111 false _ A2.out).mono ?_); rintro e w' ⟨rfl, ⟨nd, rfl⟩⟩; refine ⟨_, rfl, ?_⟩) | (go_at_call 86; (with_reducible refine (addr_domain_1__addr_label.calls a0 true _ ?side1 A12.out).mono ?_); (case side1 => exact Glob.below HG.out bl); rintro e w15 ⟨rfl, hb⟩; replace HB := Aside0.mk (below_step bl hb); (try clear hb); (try clear hb2); (try clear hk); (try clear hi)))
    go_ret
    exact ⟨rf, bl⟩
   ·rw [if_neg c14] at H
    have c14b0 : decide (255 < (a0.size : Int)) = false := decide_eq_false c14
    have c14b1 : decide (255 < a0.size) = false := decide_eq_false (by omega)
    clear c14
    obtain ⟨t118, A160, H⟩ := Option.bind_eq_some_iff.mp H
    replace H : (if t118 = true then (some 0) else (some 3)) = some r := H
    have A16 := Aside0.mk A160
    clear A160
    by_cases c17 : t118 = true
    ·subst c17
     replace H : (some 0) = some r := by rw [if_pos rfl] at H; exact H
     obtain rfl := Option.some.inj H
     go_enter Tryz.func59, Tryz.ntmps59
     go_wp2_with (first | ((with_reducible refine gate_callee (f := 30) rfl ?_); refine goesL_ (some 10) rfl rfl Tryz.func30 kf rfl #[.string a0, .string (⟨#[91]⟩ : ByteArray)] rfl ml ?_; (with_reducible refine (strings_CutPrefix.calls a0 (⟨#[91]⟩ : ByteArray) t111 false _ A2.out).mono ?_); rintro e w' ⟨rfl, ⟨nd, rfl⟩⟩; refine ⟨_, rfl, ?_⟩) | (go_at_call 86; (with_reducible refine (addr_domain_1__addr_label.calls a0 true _ ?side1 A12.out).mono ?_); (case side1 => exact Glob.below HG.out bl); rintro e w18 ⟨rfl, hb⟩; replace HB := Aside0.mk (below_step bl hb); (try clear hb); (try clear hb2); (try clear hk); (try clear hi)) | (go_at_call 86; (with_reducible refine (addr_domain_1__addr_domain_2.calls a0 true _ ?side1 A16.out).mono ?_); (case side1 => exact Glob.below HG.out bl); rintro e w19 ⟨rfl, hb⟩; replace HB := Aside0.mk (below_step bl hb); (try clear hb); (try clear hb2); (try clear hk); (try clear hi)))
     go_ret
     exact ⟨rf, bl⟩
    ·replace c17 := Bool.eq_false_iff.mpr c17
     subst c17
     replace H : (some 3) = some r := by rw [if_neg (show ¬ (false = true) by decide)] at H; exact H
     obtain rfl := Option.some.inj H
     go_enter Tryz.func59, Tryz.ntmps59
     go_wp2_with (first | ((with_reducible refine gate_callee (f := 30) rfl ?_); refine goesL_ (some 10) rfl rfl Tryz.func30 kf rfl #[.string a0, .string (⟨#[91]⟩ : ByteArray)] rfl ml ?_; (with_reducible refine (strings_CutPrefix.calls a0 (⟨#[91]⟩ : ByteArray) t111 false _ A2.out).mono ?_); rintro e w' ⟨rfl, ⟨nd, rfl⟩⟩; refine ⟨_, rfl, ?_⟩) | (go_at_call 86; (with_reducible refine (addr_domain_1__addr_label.calls a0 true _ ?side1 A12.out).mono ?_); (case side1 => exact Glob.below HG.out bl); rintro e w20 ⟨rfl, hb⟩; replace HB := Aside0.mk (below_step bl hb); (try clear hb); (try clear hb2); (try clear hk); (try clear hi)) | (go_at_call 86; (with_reducible refine (addr_domain_1__addr_domain_2.calls a0 false _ ?side1 A16.out).mono ?_); (case side1 => exact Glob.below HG.out bl); rintro e w21 ⟨rfl, hb⟩; replace HB := Aside0.mk (below_step bl hb); (try clear hb); (try clear hb2); (try clear hk); (try clear hi)))
     go_ret
     exact ⟨rf, bl⟩
  ·replace c13 := Bool.eq_false_iff.mpr c13
   subst c13
   replace H : (some 5) = some r := by rw [if_neg (show ¬ (false = true) by decide)] at H; exact H
   obtain rfl := Option.some.inj H
   go_enter Tryz.func59, Tryz.ntmps59
   go_wp2_with (first | ((with_reducible refine gate_callee (f := 30) rfl ?_); refine goesL_ (some 10) rfl rfl Tryz.func30 kf rfl #[.string a0, .string (⟨#[91]⟩ : ByteArray)] rfl ml ?_; (with_reducible refine (strings_CutPrefix.calls a0 (⟨#[91]⟩ : ByteArray) t111 false _ A2.out).mono ?_); rintro e w' ⟨rfl, ⟨nd, rfl⟩⟩; refine ⟨_, rfl, ?_⟩) | (go_at_call 86; (with_reducible refine (addr_domain_1__addr_label.calls a0 false _ ?side1 A12.out).mono ?_); (case side1 => exact Glob.below HG.out bl); rintro e w22 ⟨rfl, hb⟩; replace HB := Aside0.mk (below_step bl hb); (try clear hb); (try clear hb2); (try clear hk); (try clear hi)))
   go_ret
   exact ⟨rf, bl⟩

/-! ### addr_MayDomain: function 29 -/
def addr_MayDomain.f (a0 : ByteArray) : Option (Bool) := (addr_domain.f a0).bind fun t119 => (some (t119 == 0))
theorem addr_MayDomain.calls (a0 : ByteArray) (r : Bool) (w : World) (hG : Glob w) (h : addr_MayDomain.f a0 = some r) :
  Calls Tryz.prog 29 #[.string a0] w fun e w' => e = .returned (.bool r) ∧ Below w.heap.size w w' := by
 have HB := Aside0.mk (Below.refl w.heap.size w)
 have HG := Aside0.mk hG
 clear hG
 have H : ((addr_domain.f a0).bind fun t119 => (some (t119 == 0))) = some r := h
 clear h
 obtain ⟨t119, A20, H⟩ := Option.bind_eq_some_iff.mp H
 replace H : (some (t119 == 0)) = some r := H
 have A2 := Aside0.mk A20
 clear A20
 obtain rfl := Option.some.inj H
 go_enter Tryz.func29, Tryz.ntmps29
 go_wp2_with (first | ((with_reducible refine gate_callee (f := 59) rfl ?_); refine goesL_ (some 4) rfl rfl Tryz.func59 kf rfl #[.string a0] rfl ml ?_; (with_reducible refine (addr_domain.calls a0 t119 _ ?side1 A2.out).mono ?_); (case side1 => exact Glob.below HG.out bl); rintro e w3 ⟨rfl, hb⟩; refine ⟨_, rfl, ?_⟩; replace HB := Aside0.mk (below_step bl hb); (try clear hb); (try clear hb2); (try clear hk); (try clear hi)))
 go_ret
 exact ⟨rf, bl⟩

/-! ### addr_May: function 12 -/
def addr_May.f (a0_0 : ByteArray) (a0_1 : ByteArray) : Option (Bool) := if a0_0.toList = ([] : List UInt8) then (some false) else (if (a0_0.size : Int) ≤ 64 then ((text_Plain.f a0_0).bind fun t121 => (if t121 = true then ((addr_MayDomain.f a0_1).bind fun t122 => (some t122)) else (some false))) else (some false))
theorem addr_May.calls (a0_0 : ByteArray) (a0_1 : ByteArray) (r : Bool) (w : World) (hG : Glob w) (h : addr_May.f a0_0 a0_1 = some r) :
  Calls Tryz.prog 12 #[.agg #[.string a0_0, .string a0_1]] w fun e w' => e = .returned (.bool r) ∧ Below w.heap.size w w' := by
 have hu24 := Tryz.underlying24
 have HB := Aside0.mk (Below.refl w.heap.size w)
 have HG := Aside0.mk hG
 clear hG
 have H : (if a0_0.toList = ([] : List UInt8) then (some false) else (if (a0_0.size : Int) ≤ 64 then ((text_Plain.f a0_0).bind fun t121 => (if t121 = true then ((addr_MayDomain.f a0_1).bind fun t122 => (some t122)) else (some false))) else (some false))) = some r := h
 clear h
 by_cases c2 : a0_0.toList = ([] : List UInt8)
 ·rw [if_pos c2] at H
  have c2b0 : (a0_0.toList == ([] : List UInt8)) = true := beq_iff_eq.mpr c2
  have c2b1 : (a0_0.toList != ([] : List UInt8)) = false := bne_eq_false_iff_eq.mpr c2
  clear c2
  obtain rfl := Option.some.inj H
  go_enter Tryz.func12, Tryz.ntmps12
  go_wp2_with (first | ((with_reducible refine gate_dst (N := 1) rfl ?_); (try (refine gate_guard (by rfl) ?_; dsimp only)); refine box_event ?hg (N := 1) ?hd (cs := #[.string a0_0, .string a0_1]) (t := 24) ?hr ?_; (case hd => rfl); (case hg => rfl); (case hr => first | (go_simp; done) | (go_simp; rfl)); intro gb120 hg w3 hbox hb; have BK120 := Aside0.mk (hbox); have GW120 := Aside0.mk (gz hg : w.heap.size ≤ gb120); have GE120 := Aside0.mk (gz hg : w.heap.size ≤ gb120); replace HB := Aside0.mk (below_step bl hb); clear hb hbox hg; have hcz4_0 := cz BK120.out 0 (.string a0_0); have hcz4_1 := cz BK120.out 1 (.string a0_1); have hfz4_0 := blk_frozen BK120.out 0; have hfz4_1 := blk_frozen BK120.out 1))
  go_ret
  exact ⟨rf, bl⟩
 ·rw [if_neg c2] at H
  have c2b0 : (a0_0.toList == ([] : List UInt8)) = false := beq_eq_false_iff_ne.mpr c2
  have c2b1 : (a0_0.toList != ([] : List UInt8)) = true := bne_iff_ne.mpr c2
  by_cases c5 : (a0_0.size : Int) ≤ 64
  ·rw [if_pos c5] at H
   have c5b0 : decide ((a0_0.size : Int) ≤ 64) = true := decide_eq_true c5
   have c5b1 : decide (a0_0.size ≤ 64) = true := decide_eq_true (by omega)
   clear c5
   obtain ⟨t121, A60, H⟩ := Option.bind_eq_some_iff.mp H
   replace H : (if t121 = true then ((addr_MayDomain.f a0_1).bind fun t122 => (some t122)) else (some false)) = some r := H
   have A6 := Aside0.mk A60
   clear A60
   by_cases c7 : t121 = true
   ·subst c7
    replace H : ((addr_MayDomain.f a0_1).bind fun t122 => (some t122)) = some r := by rw [if_pos rfl] at H; exact H
    obtain ⟨t122, A80, H⟩ := Option.bind_eq_some_iff.mp H
    replace H : (some t122) = some r := H
    have A8 := Aside0.mk A80
    clear A80
    obtain rfl := Option.some.inj H
    go_enter Tryz.func12, Tryz.ntmps12
    go_wp2_with (first | ((with_reducible refine gate_dst (N := 1) rfl ?_); (try (refine gate_guard (by rfl) ?_; dsimp only)); refine box_event ?hg (N := 1) ?hd (cs := #[.string a0_0, .string a0_1]) (t := 24) ?hr ?_; (case hd => rfl); (case hg => rfl); (case hr => first | (go_simp; done) | (go_simp; rfl)); intro gb120 hg w9 hbox hb; have BK120 := Aside0.mk (hbox); have GW120 := Aside0.mk (gz hg : w.heap.size ≤ gb120); have GE120 := Aside0.mk (gz hg : w.heap.size ≤ gb120); replace HB := Aside0.mk (below_step bl hb); clear hb hbox hg; have hcz10_0 := cz BK120.out 0 (.string a0_0); have hcz10_1 := cz BK120.out 1 (.string a0_1); have hfz10_0 := blk_frozen BK120.out 0; have hfz10_1 := blk_frozen BK120.out 1) | (go_at_call 28; (with_reducible refine (text_Plain.calls a0_0 true _ A6.out).mono ?_); rintro e w11 ⟨rfl, hb⟩; replace BK120 := Aside0.mk (kb BK120.out hb); replace HB := Aside0.mk (below_step bl hb); (try clear hb); (try clear hb2); (try clear hk); (try clear hi); have hcz12_0 := cz BK120.out 0 (.string a0_0); have hcz12_1 := cz BK120.out 1 (.string a0_1); have hfz12_0 := blk_frozen BK120.out 0; have hfz12_1 := blk_frozen BK120.out 1) | (go_at_call 29; (with_reducible refine (addr_MayDomain.calls a0_1 t122 _ ?side1 A8.out).mono ?_); (case side1 => exact Glob.below HG.out bl); rintro e w13 ⟨rfl, hb⟩; replace BK120 := Aside0.mk (kb BK120.out hb); replace HB := Aside0.mk (below_step bl hb); (try clear hb); (try clear hb2); (try clear hk); (try clear hi)))
    go_ret
    exact ⟨rf, bl⟩
   ·replace c7 := Bool.eq_false_iff.mpr c7
    subst c7
    replace H : (some false) = some r := by rw [if_neg (show ¬ (false = true) by decide)] at H; exact H
    obtain rfl := Option.some.inj H
    go_enter Tryz.func12, Tryz.ntmps12
    go_wp2_with (first | ((with_reducible refine gate_dst (N := 1) rfl ?_); (try (refine gate_guard (by rfl) ?_; dsimp only)); refine box_event ?hg (N := 1) ?hd (cs := #[.string a0_0, .string a0_1]) (t := 24) ?hr ?_; (case hd => rfl); (case hg => rfl); (case hr => first | (go_simp; done) | (go_simp; rfl)); intro gb120 hg w14 hbox hb; have BK120 := Aside0.mk (hbox); have GW120 := Aside0.mk (gz hg : w.heap.size ≤ gb120); have GE120 := Aside0.mk (gz hg : w.heap.size ≤ gb120); replace HB := Aside0.mk (below_step bl hb); clear hb hbox hg; have hcz15_0 := cz BK120.out 0 (.string a0_0); have hcz15_1 := cz BK120.out 1 (.string a0_1); have hfz15_0 := blk_frozen BK120.out 0; have hfz15_1 := blk_frozen BK120.out 1) | (go_at_call 28; (with_reducible refine (text_Plain.calls a0_0 false _ A6.out).mono ?_); rintro e w16 ⟨rfl, hb⟩; replace BK120 := Aside0.mk (kb BK120.out hb); replace HB := Aside0.mk (below_step bl hb); (try clear hb); (try clear hb2); (try clear hk); (try clear hi)))
    go_ret
    exact ⟨rf, bl⟩
  ·rw [if_neg c5] at H
   have c5b0 : decide ((a0_0.size : Int) ≤ 64) = false := decide_eq_false c5
   have c5b1 : decide (a0_0.size ≤ 64) = false := decide_eq_false (by omega)
   clear c5
   obtain rfl := Option.some.inj H
   go_enter Tryz.func12, Tryz.ntmps12
   go_wp2_with (first | ((with_reducible refine gate_dst (N := 1) rfl ?_); (try (refine gate_guard (by rfl) ?_; dsimp only)); refine box_event ?hg (N := 1) ?hd (cs := #[.string a0_0, .string a0_1]) (t := 24) ?hr ?_; (case hd => rfl); (case hg => rfl); (case hr => first | (go_simp; done) | (go_simp; rfl)); intro gb120 hg w17 hbox hb; have BK120 := Aside0.mk (hbox); have GW120 := Aside0.mk (gz hg : w.heap.size ≤ gb120); have GE120 := Aside0.mk (gz hg : w.heap.size ≤ gb120); replace HB := Aside0.mk (below_step bl hb); clear hb hbox hg; have hcz18_0 := cz BK120.out 0 (.string a0_0); have hcz18_1 := cz BK120.out 1 (.string a0_1); have hfz18_0 := blk_frozen BK120.out 0; have hfz18_1 := blk_frozen BK120.out 1))
   go_ret
   exact ⟨rf, bl⟩

/-! ### strings_IndexByte: function 63 (by hand) -/
def strings_IndexByte.f (a0 : ByteArray) (a1 : Int) : Option Int := some (Lib.indexByte a0.data.toList a1.toNat.toUInt8)
theorem strings_IndexByte.calls (a0 : ByteArray) (a1 : Int) (r : Int) (w : World) (h : strings_IndexByte.f a0 a1 = some r) :
    Calls Tryz.prog 63 #[.string a0, .int .u8 a1] w fun e w' => e = .returned (.int .i64 r) ∧ Drawn0 w w' := by
  obtain rfl := Option.some.inj h
  refine (Tryz.strings_IndexByte a0 a1 w).mono ?_
  rintro e w' ⟨rfl, rfl⟩
  exact ⟨rfl, Drawn0.refl _⟩


/-! ### text_Split: function 43 -/
def text_Split.l0 : Nat → ByteArray → Int → List ByteArray → Option (List ByteArray)
 | 0, _, _, _ => none
 | k + 1, x0, x1, x5 => (strings_IndexByte.f x0 x1).bind fun t123 => (if t123 < 0 then (if x5.length < 8796093022208 then (some (x5 ++ [x0])) else (none)) else (if 0 ≤ t123 then (if t123 ≤ (x0.size : Int) then (if x5.length < 8796093022208 then (if 0 ≤ (wrap64 (t123 + 1)) then (if (wrap64 (t123 + 1)) ≤ (x0.size : Int) then (text_Split.l0 k (x0.extract ((wrap64 (t123 + 1)) : Int).toNat x0.size) x1 (x5 ++ [x0.extract 0 (t123 : Int).toNat])) else (none)) else (none)) else (none)) else (none)) else (none)))
def text_Split.f (k : Nat) (a0 : ByteArray) (a1 : Int) : Option (List ByteArray) := text_Split.l0 k a0 a1 ([] : List ByteArray)
theorem text_Split.mono_l : ∀ k, (∀ y0 y1 y2, LeO (text_Split.l0 k y0 y1 y2) (text_Split.l0 (k + 1) y0 y1 y2))
 | 0 => fun _ _ _ r h => by simp [text_Split.l0] at h
 | k + 1 => by
  have ih0 := text_Split.mono_l k
  ·intro y0 y1 y2
   unfold text_Split.l0
   repeat' first
   | (with_reducible first | exact ih0 _ _ _ | exact LeO.refl _ | exact LeO.none _ | refine LeO.ite ?_ ?_ | refine LeO.bind ?_ (fun _ => ?_))
theorem text_Split.mono : ∀ a0 a1 k, LeO (text_Split.f k a0 a1) (text_Split.f (k + 1) a0 a1) := by
 intro a0 a1 k
 have ih0 := text_Split.mono_l k
 unfold text_Split.f
 repeat' first
   | (with_reducible first | exact ih0 _ _ _ | exact LeO.refl _ | exact LeO.none _ | refine LeO.ite ?_ ?_ | refine LeO.bind ?_ (fun _ => ?_))
def text_Split.T5 : Bool × List (List Nat × List Nat) := (true, [([], []), ([], []), ([], []), ([1, 2], [1, 2]), ([3], [3]), ([0, 4], [0, 4]), ([], []), ([], []), ([7], [7]), ([6, 8], [6, 8]), ([5, 5, 0, 1, 2, 3, 4, 5], [0, 5]), ([9, 10, 0, 1, 2, 3, 4, 5, 6, 7, 8, 9, 10], [1, 6, 9])])
def text_Split.B5 : List Nat := [0, 0, 0, 6, 14, 31, 0, 0, 128, 448, 63, 2047]
theorem text_Split.tab5 : rtab .any (opsOf Tryz.f43 5) = text_Split.T5 := by kernel_rfl
theorem text_Split.bits5 : waitsOk text_Split.T5.2 text_Split.B5 = true := by kernel_rfl
theorem text_Split.calls (k : Nat) (a0 : ByteArray) (a1 : Int) (r : List ByteArray) (w : World) (h : text_Split.f k a0 a1 = some r) :
  Calls Tryz.prog 43 #[.string a0, .int .u8 a1] w fun e w' => ∃ v0_ : Value, e = .returned (v0_) ∧ Kd.R Kd.string 9 w' w.heap.size (fun _ => True) v0_ r ∧ Below w.heap.size w w' := by
 have HB := Aside0.mk (Below.refl w.heap.size w)
 have H : (text_Split.l0 k a0 a1 ([] : List ByteArray)) = some r := h
 clear h
 have H' := Aside0.mk H
 clear H
 go_enter Tryz.func43, Tryz.ntmps43
 go_wp2
 go_loopg [0, 5] k (fun kq v0 v5 w' => ∃ (x0_1 : ByteArray) (x5_1 : List ByteArray), v0 = .string x0_1 ∧ Aside0 (text_Split.l0 kq x0_1 a1 x5_1 = some r) ∧ Aside0 (kq ≤ k) ∧ Aside0 (Kd.R Kd.string 9 w' w.heap.size (fun _ => True) v5 x5_1) ∧ Aside0 (Below w.heap.size w w'))
 case atStart => exact ⟨(a0), (([] : List ByteArray)), rs, H', ⟨Nat.le_refl _⟩, ⟨by first | exact Kd.R_nil _ _ _ _ _ | exact Kd.N_nil _ _ _ _ _ | exact Kd.V_nil _ _ _ _ _ | exact Kd.Q_nil _ _ _ _ _ | exact Kd.S_nil _ _ _ _ _⟩, ⟨bl⟩⟩
 case round =>
  clear H'
  try clear p2
  obtain ⟨x0_1, x5_1, rfl, HA, HK1, HO_5, HB⟩ := hrel
  cases gk with
  | zero => exact absurd HA.out (by simp [text_Split.l0])
  | succ k1 =>
   have H := HA.out
   clear HA
   simp only [text_Split.l0] at H
   obtain ⟨t123, A30, H⟩ := Option.bind_eq_some_iff.mp H
   replace H : (if t123 < 0 then (if x5_1.length < 8796093022208 then (some (x5_1 ++ [x0_1])) else (none)) else (if 0 ≤ t123 then (if t123 ≤ (x0_1.size : Int) then (if x5_1.length < 8796093022208 then (if 0 ≤ (wrap64 (t123 + 1)) then (if (wrap64 (t123 + 1)) ≤ (x0_1.size : Int) then (text_Split.l0 k1 (x0_1.extract ((wrap64 (t123 + 1)) : Int).toNat x0_1.size) a1 (x5_1 ++ [x0_1.extract 0 (t123 : Int).toNat])) else (none)) else (none)) else (none)) else (none)) else (none))) = some r := H
   have A3 := Aside0.mk A30
   clear A30
   by_cases c4 : t123 < 0
   ·rw [if_pos c4] at H
    have c4b0 : decide (t123 < 0) = true := decide_eq_true c4
    clear c4
    by_cases c5 : x5_1.length < 8796093022208
    rotate_left
    ·rw [if_neg c5] at H
     exact ab H
    rw [if_pos c5] at H
    have LMc5 := Aside0.mk c5
    clear c5
    obtain ⟨y124, hy124⟩ : ∃ y_ : List ByteArray, y_ = (x5_1 ++ [x0_1]) := ⟨_, rfl⟩
    replace H : (some y124) = some r := by first | (rw [hy124]; with_reducible exact H) | (have H2_ := (Option.bind_some _ _).symm.trans H; rw [hy124]; with_reducible exact H2_) | (have H2_ := (Option.bind_some _ _).symm.trans H; with_reducible exact H2_) | with_reducible exact H | (rw [hy124]; exact H) | exact H
    have Ny124 := Aside0.mk hy124
    clear hy124
    obtain rfl := Option.some.inj H
    go_wp2_with (first | ((with_reducible refine gate_callee (f := 63) rfl ?_); refine goesL_ (some 9) rfl rfl Tryz.func63 kf rfl #[.string x0_1, .int .u8 a1] rfl ml ?_; (with_reducible refine (strings_IndexByte.calls x0_1 a1 t123 _ A3.out).mono ?_); rintro e w' ⟨rfl, ⟨nd, rfl⟩⟩; refine ⟨_, rfl, ?_⟩) | ((with_reducible refine gate_builtin (b := .append) (xs := #[.tmp 12, .tmp 14]) rfl ?_); at_builtin; refine Kd.R_append Kd.string (w0 := w) w.heap.size rfl (.tmp 12) (.tmp 14) 22 9 (.string ⟨#[]⟩) 16 rfl Tryz.underlying22 info9 rfl (by decide) (by omega) u5 x5_1 x0_1 [.string x0_1] (fun _ => True) (fun _ => False) rfl rfl ?aP (fun _ hk => hk.elim) ?aF ?aO ?aB ?aS ?aL ?_; (case aP => exact rfl); (case aB => exact bl); (case aF => exact (fun _ _ => trivial)); (case aO => exact (kr HO_5.out)); (case aS => exact (below_size bl)); (case aL => have := LMc5.out; omega); intro v125 w6 ho hb hg hat; rw [← Ny124.out] at ho; replace HB := Aside0.mk (hb); have HO126 := Aside0.mk (ho); clear HO_5 ho hb hg hat))
    go_ret
    exact ⟨_, by first | rfl | (simp [errW_none, errW_some] <;> rfl) | (simp [*, errW_none, errW_some] <;> rfl), kr HO126.out, bl⟩
   ·rw [if_neg c4] at H
    have c4b0 : decide (t123 < 0) = false := decide_eq_false c4
    clear c4
    by_cases c7 : 0 ≤ t123
    rotate_left
    ·rw [if_neg c7] at H
     exact ab H
    rw [if_pos c7] at H
    have c7b0 := eq_true c7
    have c7b1 : decide (0 ≤ t123) = true := decide_eq_true c7
    clear c7
    by_cases c8 : t123 ≤ (x0_1.size : Int)
    rotate_left
    ·rw [if_neg c8] at H
     exact ab H
    rw [if_pos c8] at H
    have c8b0 := eq_true c8
    have c8b1 : decide (t123 ≤ (x0_1.size : Int)) = true := decide_eq_true c8
    clear c8
    by_cases c9 : x5_1.length < 8796093022208
    rotate_left
    ·rw [if_neg c9] at H
     exact ab H
    rw [if_pos c9] at H
    have LMc9 := Aside0.mk c9
    clear c9
    obtain ⟨y127, hy127⟩ : ∃ y_ : List ByteArray, y_ = (x5_1 ++ [x0_1.extract 0 (t123 : Int).toNat]) := ⟨_, rfl⟩
    replace H : (if 0 ≤ (wrap64 (t123 + 1)) then (if (wrap64 (t123 + 1)) ≤ (x0_1.size : Int) then (text_Split.l0 k1 (x0_1.extract ((wrap64 (t123 + 1)) : Int).toNat x0_1.size) a1 y127) else (none)) else (none)) = some r := by first | (rw [hy127]; with_reducible exact H) | (have H2_ := (Option.bind_some _ _).symm.trans H; rw [hy127]; with_reducible exact H2_) | (have H2_ := (Option.bind_some _ _).symm.trans H; with_reducible exact H2_) | with_reducible exact H | (rw [hy127]; exact H) | exact H
    have Ny127 := Aside0.mk hy127
    clear hy127
    obtain ⟨ji10, hji10⟩ : ∃ j_ : Int, (wrap64 (t123 + 1)) = j_ := ⟨_, rfl⟩
    replace H : (if 0 ≤ (ji10) then (if (ji10) ≤ (x0_1.size : Int) then (text_Split.l0 k1 (x0_1.extract ((ji10) : Int).toNat x0_1.size) a1 y127) else (none)) else (none)) = some r := by first | (rw [hji10] at H; exact H) | (simp only [hji10] at H ⊢; exact H)
    (try rw [hji10] at A3)
    have hji10w : (IntKind.i64.wrap (t123 + 1)) = ji10 := (i64_w _).trans hji10
    by_cases c11 : 0 ≤ (ji10)
    rotate_left
    ·rw [if_neg c11] at H
     exact ab H
    rw [if_pos c11] at H
    have c11b0 := eq_true c11
    have c11b1 : decide (0 ≤ (ji10)) = true := decide_eq_true c11
    clear c11
    by_cases c12 : (ji10) ≤ (x0_1.size : Int)
    rotate_left
    ·rw [if_neg c12] at H
     exact ab H
    rw [if_pos c12] at H
    have c12b0 := eq_true c12
    have c12b1 : decide ((ji10) ≤ (x0_1.size : Int)) = true := decide_eq_true c12
    clear c12
    have H' := Aside0.mk H
    clear H
    try go_wp2_with (first | ((with_reducible refine gate_callee (f := 63) rfl ?_); refine goesL_ (some 9) rfl rfl Tryz.func63 kf rfl #[.string x0_1, .int .u8 a1] rfl ml ?_; (with_reducible refine (strings_IndexByte.calls x0_1 a1 t123 _ A3.out).mono ?_); rintro e w' ⟨rfl, ⟨nd, rfl⟩⟩; refine ⟨_, rfl, ?_⟩))
    (try (rw [drewN_self wr]; generalize hq_ : World.drewN wr _ = wr; have n0_ : Aside0 (Kd.R Kd.string 9 wr w.heap.size (fun _ => True) u5 x5_1) := ⟨by rw [← hq_]; exact (kr HO_5.out)⟩; have n1_ : Aside0 (Below w.heap.size w wr) := ⟨by rw [← hq_]; exact bl⟩; clear HO_5 HB hq_; have HO_5 := n0_; have HB := n1_; clear n0_ n1_))
    replace HO_5 := Aside0.mk (Kd.R_drew HO_5.out)
    replace HB := Aside0.mk (below_drew1 HB.out)
    refine start_ (n := 12) (S := fun w' => True) (ds := []) #[false, false, false, false, false, false, false, false, false, false, false, false] kf rfl rfl trivial (fun hHeld => ?_); refine with_tabW text_Split.tab5 text_Split.bits5 (fun HT_ HW_ => ?_)
    generalize wr.drew = w13 at HO_5 HB hHeld ⊢
    refine pure_ (i := 0) (N := some 16) (v := ?_) (a' := ?_) #[true, false, false, false, false, false, false, false, false, false, false, false] rfl rfl (any_of HT_.out kf) (fun _ _ _ h => h) (Or.inl ⟨by rfl, ?_⟩) ?_ ?_
    rotate_left
    ·intro w'
     go_simp
     with_reducible rfl
    rotate_left
    ·simp only [Act.put, sA, sB, sC, i64_w, i32_w]
     rfl
    refine pure_ (i := 1) (N := some 17) (v := ?_) (a' := ?_) #[true, true, false, false, false, false, false, false, false, false, false, false] rfl rfl (any_of HT_.out kf) (fun _ _ _ h => h) (Or.inl ⟨by rfl, ?_⟩) ?_ ?_
    rotate_left
    ·intro w'
     go_simp
     with_reducible rfl
    rotate_left
    ·simp only [Act.put, sA, sB, sC, i64_w, i32_w]
     rfl
    refine pure_ (i := 2) (N := some 18) (v := ?_) (a' := ?_) #[true, true, true, false, false, false, false, false, false, false, false, false] rfl rfl (any_of HT_.out kf) (fun _ _ _ h => h) (Or.inl ⟨by rfl, ?_⟩) ?_ ?_
    rotate_left
    ·intro w'
     go_simp
     with_reducible rfl
    rotate_left
    ·simp only [Act.put, sA, sB, sC, i64_w, i32_w]
     rfl
    refine pure_ (i := 3) (N := some 19) (v := ?_) (a' := ?_) #[true, true, true, true, false, false, false, false, false, false, false, false] rfl rfl (any_of HT_.out kf) (fun _ _ _ h => h) (Or.inl ⟨by rfl, ?_⟩) ?_ ?_
    rotate_left
    ·intro w'
     go_simp
     with_reducible rfl
    rotate_left
    ·simp only [Act.put, sA, sB, sC, i64_w, i32_w]
     rfl
    refine pure_ (i := 6) (N := some 22) (v := ?_) (a' := ?_) #[true, true, true, true, false, false, true, false, false, false, false, false] rfl rfl (any_of HT_.out kf) (fun _ _ _ h => h) (Or.inl ⟨by rfl, ?_⟩) ?_ ?_
    rotate_left
    ·intro w'
     go_simp
     with_reducible rfl
    rotate_left
    ·simp only [Act.put, sA, sB, sC, i64_w, i32_w]
     rfl
    refine pure_ (i := 7) (N := some 23) (v := ?_) (a' := ?_) #[true, true, true, true, false, false, true, true, false, false, false, false] rfl rfl (any_of HT_.out kf) (fun _ _ _ h => h) (Or.inl ⟨by rfl, ?_⟩) ?_ ?_
    rotate_left
    ·intro w'
     go_simp
     with_reducible rfl
    rotate_left
    ·simp only [Act.put, sA, sB, sC, i64_w, i32_w]
     rfl
    refine pure_ (i := 8) (N := some 24) (v := ?_) (a' := ?_) #[true, true, true, true, false, false, true, true, true, false, false, false] rfl rfl (any_of HT_.out kf) (fun _ _ _ h => h) (Or.inl ⟨by rfl, ?_⟩) ?_ ?_
    rotate_left
    ·intro w'
     go_simp
     with_reducible rfl
    rotate_left
    ·simp only [Act.put, sA, sB, sC, i64_w, i32_w]
     rfl
    refine pure_ (i := 9) (N := some 25) (v := ?_) (a' := ?_) #[true, true, true, true, false, false, true, true, true, true, false, false] rfl rfl (any_of HT_.out kf) (fun _ _ _ h => h) (Or.inl ⟨by rfl, ?_⟩) ?_ ?_
    rotate_left
    ·intro w'
     go_simp
     with_reducible rfl
    rotate_left
    ·simp only [Act.put, sA, sB, sC, i64_w, i32_w]
     rfl
    refine one_ (i := 4) (N := some 20) #[true, true, true, true, true, false, true, true, true, true, false, false] rfl rfl (one_of HT_.out kf) (by decide) (fun K hK => ?_)
    refine value_ (w1 := ?_) (v := ?_) (by rfl) rfl ?_ ?_
    rotate_left 2
    ·go_simp
     constructor
     ·rfl
     ·rfl
    refine hK.out _ _ trivial (fun hHeld => ?_)
    clear hK K
    refine norm_ (a' := ?_) ?_ ?_
    rotate_left
    ·show Act.put _ (some 20) _ = _
     simp only [Act.put, sA, sB, sC, i64_w, i32_w]
     rfl
    refine one_ (i := 5) (N := some 21) #[true, true, true, true, true, true, true, true, true, true, false, false] rfl rfl (one_of HT_.out kf) (by decide) (fun K hK => ?_)
    refine Kd.R_append_step Kd.string (w0 := w) w.heap.size (by rfl) (.tmp 16) (.tmp 20) 22 9 (.string ⟨#[]⟩) 16 rfl Tryz.underlying22 info9 rfl (by decide) (by omega) u5 x5_1 (x0_1.extract 0 (t123 : Int).toNat) [.string (x0_1.extract 0 (t123 : Int).toNat)] (fun _ => True) (fun _ => False) rfl rfl ?aP (fun _ hk => hk.elim) ?aF ?aO ?aB ?aS ?aL ?_
    (case aP => exact rfl)
    (case aB => exact bl)
    (case aF => exact (fun _ _ => trivial))
    (case aO => exact (kr HO_5.out))
    (case aS => exact (below_size bl))
    (case aL => have := LMc9.out; omega)
    intro v128 w14 ho hb hg hat
    rw [← Ny127.out] at ho
    replace HB := Aside0.mk (hb)
    have HO129 := Aside0.mk (ho)
    clear HO_5 ho hb hg hat
    refine hK.out _ _ trivial (fun hHeld => ?_)
    clear hK K
    refine norm_ (a' := ?_) ?_ ?_
    rotate_left
    ·show Act.put _ (some 21) _ = _
     simp only [Act.put, sA, sB, sC, i64_w, i32_w]
     rfl
    refine pure_ (i := 10) (N := some 5) (v := ?_) (a' := ?_) #[true, true, true, true, true, true, true, true, true, true, true, false] rfl rfl (any_of HT_.out kf) (fun _ _ _ h => h) (Or.inl ⟨by rfl, ?_⟩) ?_ ?_
    rotate_left
    ·intro w'
     go_simp
     with_reducible rfl
    rotate_left
    ·simp only [Act.put, sA, sB, sC, i64_w, i32_w]
     rfl
    refine pure_ (i := 11) (N := some 0) (v := ?_) (a' := ?_) #[true, true, true, true, true, true, true, true, true, true, true, true] rfl rfl (any_of HT_.out kf) (fun _ _ _ h => h) (Or.inl ⟨by rfl, ?_⟩) ?_ ?_
    rotate_left
    ·intro w'
     go_simp
     with_reducible rfl
    rotate_left
    ·simp only [Act.put, sA, sB, sC, i64_w, i32_w]
     rfl
    refine done_ (done_of HT_.out kf) ?_
    try go_wp2
    go_roundg k1
    case measure => have := HK1.out; omega
    case rel => exact ⟨(x0_1.extract ((ji10) : Int).toNat x0_1.size), (y127), (by first | rfl | (simp; done) | (simp only [← hji10] <;> (first | rfl | simp)) | (simp [*]; done)), H', ⟨by have := HK1.out; omega⟩, ⟨kr HO129.out⟩, ⟨bl⟩⟩

/-! ### text_atomic: function 104 (by hand) -/
def letL : List UInt8 := [33, 35, 36, 37, 38, 39, 42, 43, 45, 47, 61, 63, 94, 95, 96, 123, 124, 125, 126]
def letN (n : Nat) : Bool := (decide (97 ≤ n) && decide (n ≤ 122)) || (decide (65 ≤ n) && decide (n ≤ 90)) || (decide (48 ≤ n) && decide (n ≤ 57)) || letL.any fun c => c.toNat == n
def text_atomic.f (a0 : Int) : Option Bool := if 0 ≤ a0 then (if a0 ≤ 255 then some (letN a0.toNat) else none) else none
theorem let_tab0 : ∀ n, n < 32 → letN n = false := by decide +kernel
theorem let_tab1 : ∀ n, n < 32 → ((Go.bits .and .u32 (2751442170 / 2 ^ n) 1 == 1) = letN (32 + n)) := by decide +kernel
theorem let_tab2 : ∀ n, n < 32 → ((Go.bits .and .u32 (3355443198 / 2 ^ n) 1 == 1) = letN (64 + n)) := by decide +kernel
theorem let_tab3 : ∀ n, n < 32 → ((Go.bits .and .u32 (2147483647 / 2 ^ n) 1 == 1) = letN (96 + n)) := by decide +kernel
theorem let_high : ∀ n, 128 ≤ n → letN n = false := by
  intro n h
  unfold letN letL
  simp
  omega
theorem text_atomic.calls (a0 : Int) (r : Bool) (w : World) (hG : Glob w) (h : text_atomic.f a0 = some r) :
    Calls Tryz.prog 104 #[.int .u8 a0] w fun e w' => e = .returned (.bool r) ∧ Drawn0 w w' := by
  unfold text_atomic.f at h
  by_cases h0 : 0 ≤ a0
  · rw [if_pos h0] at h
    by_cases h1 : a0 ≤ 255
    · rw [if_pos h1] at h
      obtain ⟨n, rfl⟩ := Int.eq_ofNat_of_zero_le h0
      rw [Int.toNat_natCast] at h
      have hr := Lib.hid (Option.some.inj h)
      clear h
      have g0 := hG.a0
      have g1 := hG.a1
      have g2 := hG.a2
      have g3 := hG.a3
      clear hG
      by_cases hn : n < 128
      · have hb : decide ((n : Int) < 128) = true := decide_eq_true (by omega)
        have hcase : n / 32 = 0 ∨ n / 32 = 1 ∨ n / 32 = 2 ∨ n / 32 = 3 := by omega
        rcases hcase with hq | hq | hq | hq
        · have hl : letN n = false := let_tab0 n (by omega)
          rw [hl] at hr
          go_enter Tryz.func104, Tryz.ntmps104
          go_wp2
          go_ret
          refine ⟨?_, Drawn0.refl _⟩
          rw [← hr.out]
          rfl
        · have hl : letN n = (Go.bits .and .u32 (2751442170 / 2 ^ (n % 32)) 1 == 1) := by rw [let_tab1 _ (Nat.mod_lt _ (by omega))]; congr 1; omega
          rw [hl] at hr
          go_enter Tryz.func104, Tryz.ntmps104
          go_wp2
          go_ret
          refine ⟨?_, Drawn0.refl _⟩
          rw [← hr.out]
          rfl
        · have hl : letN n = (Go.bits .and .u32 (3355443198 / 2 ^ (n % 32)) 1 == 1) := by rw [let_tab2 _ (Nat.mod_lt _ (by omega))]; congr 1; omega
          rw [hl] at hr
          go_enter Tryz.func104, Tryz.ntmps104
          go_wp2
          go_ret
          refine ⟨?_, Drawn0.refl _⟩
          rw [← hr.out]
          rfl
        · have hl : letN n = (Go.bits .and .u32 (2147483647 / 2 ^ (n % 32)) 1 == 1) := by rw [let_tab3 _ (Nat.mod_lt _ (by omega))]; congr 1; omega
          rw [hl] at hr
          go_enter Tryz.func104, Tryz.ntmps104
          go_wp2
          go_ret
          refine ⟨?_, Drawn0.refl _⟩
          rw [← hr.out]
          rfl
      · have hb : decide ((n : Int) < 128) = false := decide_eq_false (by omega)
        rw [let_high n (by omega)] at hr
        go_enter Tryz.func104, Tryz.ntmps104
        go_wp2
        go_ret
        refine ⟨?_, Drawn0.refl _⟩
        rw [← hr.out]
        rfl
    · rw [if_neg h1] at h; cases h
  · rw [if_neg h0] at h; cases h


/-! ### text_Atom: function 81 (by hand) -/
def letC (c : UInt8) : Bool := letN c.toNat
def atomB (s : ByteArray) : Bool := !s.data.toList.isEmpty && s.data.toList.all letC
def text_Atom.f (a0 : ByteArray) : Option Bool := if a0.size < 70368744177000 then some (atomB a0) else none
theorem bytes_cell_at2 {W w1 : World} {g e : Nat} {s : ByteArray} {C : Array Value} {fz : Nat × Nat} (h : W.heap[g]? = some (.cells C e fz)) (hC : C = Lib.bytesCells w1 e s) (j : Nat) (hj : j < s.size) : W.cell? ⟨g, j, none⟩ = some (.int .u8 ((s[j]'hj).toNat : Nat)) := by
  subst hC
  simp [World.cell?, h, Lib.bytesCells, Array.getElem?_append, hj]
  rfl
theorem atom_not (c : Nat) (hc : c < 256) (w : World) (hG : Glob w) :
    Calls Tryz.prog 103 #[.int .u8 c] w fun e w' => e = .returned (.bool (!letN c)) ∧ Drawn0 w w' := by
  have hf : text_atomic.f (c : Int) = some (letN c) := by unfold text_atomic.f; rw [if_pos (by omega), if_pos (by omega), Int.toNat_natCast]
  have Hf := Lib.hid hf
  clear hf
  have HG := Lib.hid hG
  clear hG
  generalize letN c = b at Hf ⊢
  go_enter Tryz.func103, Tryz.ntmps103
  go_wp2_with (go_at_call 104; refine (text_atomic.calls (c : Int) b _ HG.out Hf.out).mono ?_; rintro e w1 ⟨rfl, ⟨nd, rfl⟩⟩)
  go_ret
  exact ⟨rfl, ⟨nd, rfl⟩⟩
/-- What IndexFunc tells here. -/
def AtomIdx (s : ByteArray) (w : World) (e : Ending) (w' : World) : Prop := ∃ r : Int, e = .returned (.int .i64 r) ∧ decide (0 ≤ r) = !s.data.toList.all letC ∧ Drawn0 w w'
theorem all_take (s : ByteArray) (k : Nat) (h : k < s.size) (p : UInt8 → Bool) : (s.data.toList.take (k + 1)).all p = ((s.data.toList.take k).all p && p (s[k]'h)) := by
  rw [List.take_succ_eq_append_getElem (by simpa using h), List.all_append]
  simp
  rfl
theorem all_not (s : ByteArray) (k : Nat) (h : k < s.size) (p : UInt8 → Bool) (hb : p (s[k]'h) = false) : s.data.toList.all p = false := by
  rw [Bool.eq_false_iff]
  intro ha
  rw [List.all_eq_true] at ha
  have := ha (s[k]'h) (by
    have h' : k < s.data.toList.length := by simpa using h
    have e : s.data.toList[k]'h' = s[k]'h := by simp; rfl
    rw [← e]; exact List.getElem_mem h')
  rw [hb] at this
  cases this
theorem atom_idx (s : ByteArray) (hs : s.size ≤ 70368744177000) (g cap : Nat) (fz : Nat × Nat) (C : Array Value) (w1 w : World) (hC : C = Lib.bytesCells w1 5 s) (hh : w.heap[g]? = some (.cells C 5 fz)) (hG : Glob w) :
    Calls Tryz.prog 99 #[.slice (some ⟨g, 0, none⟩) s.size cap, .func (.func 103) #[] #[]] w (AtomIdx s w) := by
  have HC := Lib.hid hC
  have HH := Lib.hid hh
  have HG := Lib.hid hG
  clear hC hh hG
  go_enter Tryz.func99, Tryz.ntmps99
  go_wp2
  go_loopw [8] (fun v8 w' => ∃ k : Nat, v8 = .int .i64 k ∧ k ≤ s.size ∧ Aside0 ((s.data.toList.take k).all letC = true) ∧ Drawn0 w w') (fun v8 _ => s.size - (intOf v8).toNat)
  case atStart => exact ⟨0, rfl, Nat.zero_le _, ⟨rfl⟩, Drawn0.refl _⟩
  case round =>
    obtain ⟨k, rfl, hk, Hall, ⟨nd, rfl⟩⟩ := hrel
    by_cases hlt : k < s.size
    · have hcell : (w.drewN nd).cell? ⟨g, k, none⟩ = some (.int .u8 ((s[k]'hlt).toNat : Nat)) := bytes_cell_at2 (W := w.drewN nd) HH.out HC.out k hlt
      have hst := Lib.hid (all_take s k hlt letC)
      have hnt := Lib.hid (all_not s k hlt letC)
      have hc256 : (s[k]'hlt).toNat < 256 := UInt8.toNat_lt _
      unfold letC at hst hnt
      obtain ⟨c, hc⟩ : ∃ c : Nat, c = (s[k]'hlt).toNat := ⟨_, rfl⟩
      rw [← hc] at hcell hc256 hst hnt
      clear hc
      cases hb : letN c with
      | true =>
        have Hb := Lib.hid hb
        clear hb
        have HGd : Hid (Glob (w.drewN nd)) := Lib.hid (HG.out.drawn ⟨nd, rfl⟩)
        go_wp2_with (refine (atom_not c hc256 _ HGd.out).mono ?_; rw [Hb.out]; rintro e w1 ⟨rfl, ⟨nd2, rfl⟩⟩)
        go_roundw
        case rel => exact ⟨k + 1, by go_num, hlt, ⟨by have := hst.out; rw [Hb.out] at this; unfold letC at Hall ⊢; rw [this, Hall.out]; rfl⟩, ⟨⟨_, rfl⟩⟩⟩
        case measure => simp [intOf]; omega
      | false =>
        have Hb := Lib.hid hb
        clear hb
        have HGd : Hid (Glob (w.drewN nd)) := Lib.hid (HG.out.drawn ⟨nd, rfl⟩)
        go_wp2_with (refine (atom_not c hc256 _ HGd.out).mono ?_; rw [Hb.out]; rintro e w1 ⟨rfl, ⟨nd2, rfl⟩⟩)
        go_ret
        refine ⟨(k : Int), rfl, ?_, ⟨⟨_, rfl⟩⟩⟩
        unfold letC
        rw [hnt.out Hb.out]
        exact decide_eq_true (by omega)
    · go_wp2
      go_ret
      have e : k = s.size := by omega
      subst e
      have := Hall.out
      rw [List.take_of_length_le (by simp)] at this
      refine ⟨-1, rfl, ?_, ⟨⟨nd, rfl⟩⟩⟩
      rw [this]; rfl
theorem atom_has (s : ByteArray) (hs : s.size ≤ 70368744177000) (g cap : Nat) (fz : Nat × Nat) (C : Array Value) (w1 w : World) (hC : C = Lib.bytesCells w1 5 s) (hh : w.heap[g]? = some (.cells C 5 fz)) (hG : Glob w) :
    Calls Tryz.prog 74 #[.slice (some ⟨g, 0, none⟩) s.size cap, .func (.func 103) #[] #[]] w fun e w' => e = .returned (.bool (!s.data.toList.all letC)) ∧ Drawn0 w w' := by
  have HI := Lib.hid (atom_idx s hs g cap fz C w1 w hC hh hG)
  clear hC hh hG
  generalize ha : s.data.toList.all letC = b
  have Ha := Lib.hid ha
  clear ha
  go_enter Tryz.func74, Tryz.ntmps74
  go_wp2_with (go_at_call 99; refine HI.out.mono ?_; rintro e w1 ⟨i, rfl, hi, ⟨nd, rfl⟩⟩; rw [Ha.out] at hi)
  go_ret
  exact ⟨by simp [hi], ⟨nd, rfl⟩⟩
theorem text_Atom.calls (a0 : ByteArray) (r : Bool) (w : World) (hG : Glob w) (h : text_Atom.f a0 = some r) :
    Calls Tryz.prog 81 #[.string a0] w fun e w' => e = .returned (.bool r) ∧ Below w.heap.size w w' := by
  unfold text_Atom.f at h
  by_cases hsz : a0.size < 70368744177000
  · rw [if_pos hsz] at h
    have hr := Lib.hid (Option.some.inj h)
    clear h
    by_cases he : a0.toList = ([] : List UInt8)
    · have hb : (a0.toList == ([] : List UInt8)) = true := beq_iff_eq.mpr he
      have hb2 : (a0.toList != ([] : List UInt8)) = false := bne_eq_false_iff_eq.mpr he
      have hb3 : a0.toList.isEmpty = true := by rw [he]; rfl
      have hf : atomB a0 = false := by
        unfold atomB; rw [← ByteArray.toList_eq, he]; rfl
      rw [hf] at hr
      clear he hf
      go_enter Tryz.func81, Tryz.ntmps81
      go_wp2
      go_ret
      exact ⟨by rw [← hr.out]; rfl, Below.refl _ _⟩
    · have hb : (a0.toList == ([] : List UInt8)) = false := beq_eq_false_iff_ne.mpr he
      have hb2 : (a0.toList != ([] : List UInt8)) = true := bne_iff_ne.mpr he
      have hb3 : a0.toList.isEmpty = false := by cases h : a0.toList <;> simp_all
      have hf : atomB a0 = !(!a0.data.toList.all letC) := by
        unfold atomB; rw [← ByteArray.toList_eq, hb3, ByteArray.toList_eq]; simp
      rw [hf] at hr
      clear he hf
      have hcv := fun W => print_bytes (P := Tryz.prog) 9 55 5 Tryz.underlying9 Tryz.underlying55 Tryz.underlying5 a0 W
      have HB := Lib.hid (bytes_below (Below.refl w.heap.size w) (Nat.le_refl _) 5 a0)
      have HA := Lib.hid (atom_has a0 (by omega) w.heap.size (grownCap w a0.size 0 5) _ _ w _ rfl (Lib.bytesWorld_at_new w 5 a0) (hG.below HB.out))
      clear hG
      generalize (!a0.data.toList.all letC) = b at HA hr
      go_enter Tryz.func81, Tryz.ntmps81
      go_wp2_with (go_at_call 74; refine HA.out.mono ?_; rintro e w1 ⟨rfl, ⟨nd, rfl⟩⟩)
      go_ret
      exact ⟨by rw [← hr.out]; rfl, pw_below_drewN HB.out _⟩
  · rw [if_neg hsz] at h; cases h


end Go.Proofs.YtgelfnjicglmbaaGreatDoor.Q
end
section
namespace Go.Proofs.YtgelfnjicglmbaaGreatDoor.Q

/-! ### text_DotAtom: function 52 (by hand) -/
def dotAll (l : List ByteArray) : Bool := l.all atomB
def dotSmall (l : List ByteArray) : Bool := l.all fun x => decide (x.size < 70368744177000)
def text_DotAtom.f (k : Nat) (a0 : ByteArray) : Option Bool := (text_Split.f k a0 46).bind fun t => if dotSmall t = true then some (dotAll t) else none
theorem text_DotAtom.mono : ∀ a0 k, LeO (text_DotAtom.f k a0) (text_DotAtom.f (k + 1) a0) := fun a0 k => LeO.bind (text_Split.mono _ _ k) (fun _ => LeO.refl _)
theorem dot_not (s : ByteArray) (hs : s.size < 70368744177000) (w : World) (hG : Glob w) :
    Calls Tryz.prog 80 #[.string s] w fun e w' => e = .returned (.bool (!atomB s)) ∧ Below w.heap.size w w' := by
  have hf : text_Atom.f s = some (atomB s) := by unfold text_Atom.f; rw [if_pos hs]
  have Hf := Lib.hid hf
  clear hf
  have HG := Lib.hid hG
  clear hG
  generalize atomB s = b at Hf ⊢
  go_enter Tryz.func80, Tryz.ntmps80
  go_wp2_with (go_at_call 81; refine (text_Atom.calls s b _ HG.out Hf.out).mono ?_; rintro e w1 ⟨rfl, hb⟩)
  go_ret
  exact ⟨rfl, hb⟩
def DotIdx (l : List ByteArray) (w : World) (e : Ending) (w' : World) : Prop := ∃ r : Int, e = .returned (.int .i64 r) ∧ decide (0 ≤ r) = !dotAll l ∧ Below w.heap.size w w'
theorem dot_take (l : List ByteArray) (k : Nat) (h : k < l.length) : dotAll (l.take (k + 1)) = (dotAll (l.take k) && atomB l[k]) := by
  unfold dotAll
  rw [List.take_succ_eq_append_getElem h, List.all_append]
  simp
theorem dot_no (l : List ByteArray) (k : Nat) (h : k < l.length) (hb : atomB l[k] = false) : dotAll l = false := by
  unfold dotAll
  rw [Bool.eq_false_iff]
  intro ha
  have := List.all_eq_true.1 ha l[k] (List.getElem_mem h)
  rw [hb] at this
  cases this
theorem dot_idx (l : List ByteArray) (hs : dotSmall l = true) (hl : l.length ≤ 9223372036854775807) (A : Option Addr) (c : Nat) (w : World) (hC : ReadsOf Value.string ByteArray.empty w A l.length l) (hG : Glob w) :
    Calls Tryz.prog 102 #[.slice A l.length c, .func (.func 80) #[] #[]] w (DotIdx l w) := by
  have HS := Lib.hid hs
  have HC := Lib.hid hC
  have HG := Lib.hid hG
  clear hs hC hG
  go_enter Tryz.func102, Tryz.ntmps102
  go_wp2
  go_loopw [8] (fun v8 w' => ∃ k : Nat, v8 = .int .i64 k ∧ k ≤ l.length ∧ Aside0 (dotAll (l.take k) = true) ∧ Aside0 (Below w.heap.size w w')) (fun v8 _ => l.length - (intOf v8).toNat)
  case atStart => exact ⟨0, rfl, Nat.zero_le _, ⟨rfl⟩, ⟨Below.refl _ _⟩⟩
  case round =>
    obtain ⟨k, rfl, hk, Hall, HB⟩ := hrel
    by_cases hlt : k < l.length
    · obtain ⟨ad, hA, hcell⟩ := (HC.out.below HB.out).at_ (k : Int) (by omega) (by omega)
      rw [Int.toNat_natCast] at hcell
      have ex : rdOf ByteArray.empty l (k : Int) = l[k]'hlt := by simp [rdOf, hlt]
      rw [ex] at hcell
      clear ex
      have hst := Lib.hid (dot_take l k hlt)
      have hnt := Lib.hid (dot_no l k hlt)
      have hsm : (l[k]'hlt).size < 70368744177000 := by
        have := List.all_eq_true.1 HS.out (l[k]'hlt) (List.getElem_mem hlt)
        simpa using this
      obtain ⟨x, hx⟩ : ∃ x : ByteArray, x = l[k]'hlt := ⟨_, rfl⟩
      rw [← hx] at hcell hst hnt hsm
      clear hx
      have HGw : Hid (Glob wr) := Lib.hid (HG.out.below HB.out)
      have HSm := Lib.hid hsm
      clear hsm
      cases hb : atomB x with
      | true =>
        have Hb := Lib.hid hb
        clear hb
        subst hA
        go_wp2_with (refine (dot_not x HSm.out _ HGw.out).mono ?_; rw [Hb.out]; rintro e w1 ⟨rfl, hb1⟩; have HB1 := Lib.hid hb1; clear hb1)
        go_roundw
        case rel => exact ⟨k + 1, by go_num, hlt, ⟨by rw [hst.out, Hall.out, Hb.out]; rfl⟩, ⟨HB.out.trans (HB1.out.mono HB.out.size)⟩⟩
        case measure => simp [intOf]; omega
      | false =>
        have Hb := Lib.hid hb
        clear hb
        subst hA
        go_wp2_with (refine (dot_not x HSm.out _ HGw.out).mono ?_; rw [Hb.out]; rintro e w1 ⟨rfl, hb1⟩; have HB1 := Lib.hid hb1; clear hb1)
        go_ret
        refine ⟨(k : Int), rfl, ?_, HB.out.trans (HB1.out.mono HB.out.size)⟩
        rw [hnt.out Hb.out]
        exact decide_eq_true (by omega)
    · go_wp2
      go_ret
      have e : k = l.length := by omega
      subst e
      have := Hall.out
      rw [List.take_of_length_le (Nat.le_refl _)] at this
      refine ⟨-1, rfl, ?_, HB.out⟩
      rw [this]; rfl
theorem dot_has (l : List ByteArray) (hs : dotSmall l = true) (hl : l.length ≤ 9223372036854775807) (A : Option Addr) (c : Nat) (w : World) (hC : ReadsOf Value.string ByteArray.empty w A l.length l) (hG : Glob w) :
    Calls Tryz.prog 79 #[.slice A l.length c, .func (.func 80) #[] #[]] w fun e w' => e = .returned (.bool (!dotAll l)) ∧ Below w.heap.size w w' := by
  have HI := Lib.hid (dot_idx l hs hl A c w hC hG)
  clear hC hs hG hl
  generalize ha : dotAll l = b
  have Ha := Lib.hid ha
  clear ha
  go_enter Tryz.func79, Tryz.ntmps79
  go_wp2_with (go_at_call 102; refine HI.out.mono ?_; rintro e w1 ⟨i, rfl, hi, hb⟩; rw [Ha.out] at hi; have HB1 := Lib.hid hb; clear hb)
  go_ret
  exact ⟨by simp [hi], HB1.out⟩
theorem text_DotAtom.calls (k : Nat) (a0 : ByteArray) (r : Bool) (w : World) (hG : Glob w) (h : text_DotAtom.f k a0 = some r) :
    Calls Tryz.prog 52 #[.string a0] w fun e w' => e = .returned (.bool r) ∧ Below w.heap.size w w' := by
  unfold text_DotAtom.f at h
  obtain ⟨l, hl, h⟩ := Option.bind_eq_some_iff.mp h
  by_cases hs : dotSmall l = true
  · rw [if_pos hs] at h
    have hr := Lib.hid (Option.some.inj h)
    clear h
    have HL := Lib.hid hl
    have HS := Lib.hid hs
    have HG := Lib.hid hG
    clear hl hs hG
    go_enter Tryz.func52, Tryz.ntmps52
    go_wp2_with (first | (go_at_call 43; refine (text_Split.calls k a0 46 l _ HL.out).mono ?_; rintro e w1 ⟨v, rfl, ho, hb⟩; obtain ⟨A, c, rfl, hc, hC⟩ := Kd.R_reads ho; have HB := Lib.hid hb; have hrd : ReadsOf Value.string ByteArray.empty w1 A l.length l := Kd.reads_of_C hC; have HH := Lib.hid (dot_has l HS.out hrd.2.1 A c w1 hrd (HG.out.below hb)); clear ho hb hC hc hrd) | (go_at_call 79; refine HH.out.mono ?_; rintro e w2 ⟨rfl, hb2⟩; have HB2 := Lib.hid hb2; clear hb2))
    go_ret
    exact ⟨by rw [← hr.out]; simp, HB.out.trans (HB2.out.mono HB.out.size)⟩
  · rw [if_neg hs] at h; cases h


/-! ### text_Quote: function 53 (by hand) -/
def quoteC (c : UInt8) : List UInt8 := if c = 34 ∨ c = 92 then [92, c] else [c]
def quoteM (l : List UInt8) : List UInt8 := l.flatMap quoteC
def quoteL (l : List UInt8) : List UInt8 := 34 :: (quoteM l ++ [34])
def quoteB (s : ByteArray) : ByteArray := ⟨(quoteL s.data.toList).toArray⟩
def numsOf (l : List UInt8) : List Int := l.map fun b => (b.toNat : Int)
def quoteN (l : List UInt8) : List Int := 34 :: numsOf (quoteM l)
def text_Quote.f (a0 : ByteArray) : Option (ByteArray × Int) := if a0.size < 70368744177000 then (if plainB a0 = true then some (quoteB a0, 0) else some ((⟨#[]⟩ : ByteArray), 5)) else none
theorem quoteC_len (c : UInt8) : (quoteC c).length ≤ 2 := by unfold quoteC; split <;> simp
theorem quoteM_len (l : List UInt8) : (quoteM l).length ≤ 2 * l.length := by
  unfold quoteM
  induction l with
  | nil => simp
  | cons c l ih => simp only [List.flatMap_cons, List.length_append, List.length_cons]; have := quoteC_len c; omega
theorem quoteN_len (l : List UInt8) : (quoteN l).length ≤ 2 * l.length + 1 := by
  unfold quoteN numsOf; simp; have := quoteM_len l; omega
theorem quoteN_snoc2 (s : ByteArray) (k : Nat) (h : k < s.size) (hc : (s[k]'h) = 34 ∨ (s[k]'h) = 92) : quoteN (s.data.toList.take (k + 1)) = (quoteN (s.data.toList.take k) ++ [92]) ++ [((s[k]'h).toNat : Int)] := by
  rw [List.take_succ_eq_append_getElem (by simpa using h)]
  have e : (s.data.toList[k]'(by simpa using h)) = s[k]'h := by simp; rfl
  rw [e]
  simp [quoteN, quoteM, numsOf, quoteC, hc]
theorem quoteN_snoc1 (s : ByteArray) (k : Nat) (h : k < s.size) (hc : ¬ ((s[k]'h) = 34 ∨ (s[k]'h) = 92)) : quoteN (s.data.toList.take (k + 1)) = quoteN (s.data.toList.take k) ++ [((s[k]'h).toNat : Int)] := by
  rw [List.take_succ_eq_append_getElem (by simpa using h)]
  have e : (s.data.toList[k]'(by simpa using h)) = s[k]'h := by simp; rfl
  rw [e]
  simp [quoteN, quoteM, numsOf, quoteC, hc]
theorem quote_str (s : ByteArray) : strOfNums (quoteN s.data.toList ++ [34]) = quoteB s := by
  unfold strOfNums quoteN quoteB quoteL numsOf
  simp [List.map_map, Function.comp_def]
theorem bytes_cell_at {W w1 : World} {g e : Nat} {s : ByteArray} {C : Array Value} {fz : Nat × Nat} (h : W.heap[g]? = some (.cells C e fz)) (hC : C = Lib.bytesCells w1 e s) (j : Nat) (hj : j < s.size) : W.cell? ⟨g, j, none⟩ = some (.int .u8 ((s[j]'hj).toNat : Nat)) := by
  subst hC
  simp [World.cell?, h, Lib.bytesCells, Array.getElem?_append, hj]
  rfl
theorem text_Quote.calls (a0 : ByteArray) (r1 : ByteArray) (r2 : Int) (w : World) (h : text_Quote.f a0 = some (r1, r2)) :
    Calls Tryz.prog 53 #[.string a0] w fun e w' => e = .returned (.tuple #[.string r1, .int .i64 r2]) ∧ Below w.heap.size w w' := by
  unfold text_Quote.f at h
  by_cases hsz : a0.size < 70368744177000
  · rw [if_pos hsz] at h
    by_cases hp : plainB a0 = true
    · rw [if_pos hp] at h
      simp only [Option.some.injEq, Prod.mk.injEq] at h
      obtain ⟨rfl, rfl⟩ := h
      have Hp := Lib.hid hp
      clear hp
      go_enter Tryz.func53, Tryz.ntmps53
      have hcv := fun W => print_bytes (P := Tryz.prog) 9 55 5 Tryz.underlying9 Tryz.underlying55 Tryz.underlying5 a0 W
      go_wp2_with (first | (go_at_call 28; refine (text_Plain.calls a0 true _ (by unfold text_Plain.f; rw [Hp.out])).mono ?_; rintro e w1 ⟨rfl, hb⟩) | ((with_reducible refine gate_dst (N := 10) rfl ?_); refine Kd.R_lit (Kd.int .u8) (w0 := w) w.heap.size 5 ?hg (N := 10) ?hd (xs := [34]) (inner := [.int .u8 34]) (ok := fun _ => True) (okp := fun _ => True) ?hr ?hp (fun _ hk => hk) trivial hb hb.size (by simp) ?_; (case hd => rfl); (case hg => rfl); (case hr => first | (go_simp; done) | (go_simp; rfl)); (case hp => exact (Reps.one (show Kd.M (Kd.int .u8) _ _ _ 34 [.int .u8 34] from rfl) (Reps.none _ _))); intro v2 w2 ho hb2 hg_ hnew_))
      clear hcv
      obtain ⟨w3, hw3⟩ : ∃ w3, w3 = Lib.bytesWorld w2 5 a0 := ⟨_, rfl⟩
      rw [← hw3]
      have HG := Aside0.mk (Lib.bytesWorld_at_new w2 5 a0)
      have HO := Aside0.mk (Kd.R_below (Kd.R_mono (ok' := fun j => j ≠ w2.heap.size) (Kd.R_bound ho) (fun j hj => by have := hj.2.2.1; omega)) (bytes_below (Below.refl _ _) (Nat.le_refl _) 5 a0))
      have HB := Aside0.mk (bytes_below hb2 hb2.size 5 a0)
      have HS := Aside0.mk (show w2.heap.size < (Lib.bytesWorld w2 5 a0).heap.size by rw [Lib.bytesWorld_size]; omega)
      rw [← hw3] at HG HO HB HS
      have HE := Lib.hid hw3
      clear hw3 ho hb2 hg_ hnew_ hb
      generalize grownCap w2 a0.size 0 5 = cap
      obtain ⟨C, hC⟩ : ∃ C, C = Lib.bytesCells w2 5 a0 := ⟨_, rfl⟩
      obtain ⟨fz, hfz⟩ : ∃ fz : Nat × Nat, fz = (C.size, C.size + 1) := ⟨_, rfl⟩
      rw [← hC, ← hfz] at HG
      have HC := Lib.hid hC
      clear hC hfz
      obtain ⟨g, hg⟩ : ∃ g, g = w2.heap.size := ⟨_, rfl⟩
      rw [← hg] at HG HO HS ⊢
      clear hg
      go_loopw [4, 14] (fun v4 v14 w' => ∃ (k : Nat), v14 = .int .i64 k ∧ k ≤ a0.size ∧ Aside0 (Kd.R (Kd.int .u8) 5 w' w.heap.size (fun j => j ≠ g) v4 (quoteN (a0.data.toList.take k))) ∧ Aside0 (w'.heap[g]? = some (.cells C 5 fz)) ∧ Aside0 (Below w.heap.size w w')) (fun _ v14 _ => a0.size - (intOf v14).toNat)
      case atStart => exact ⟨0, rfl, Nat.zero_le _, ⟨HO.out⟩, ⟨HG.out⟩, ⟨HB.out⟩⟩
      case round =>
        clear HO HG HB HS
        obtain ⟨k, rfl, hk, HO, HG, HB⟩ := hrel
        have HS := Aside0.mk (blk_lt HG.out)
        have HL := Aside0.mk (Nat.le_trans (quoteN_len (a0.data.toList.take k)) (show 2 * (a0.data.toList.take k).length + 1 ≤ 140737488354001 by have := List.length_take_le k a0.data.toList; omega))
        by_cases hlt : k < a0.size
        · have hcell : wr.cell? ⟨g, k, none⟩ = some (.int .u8 ((a0[k]'hlt).toNat : Nat)) := bytes_cell_at HG.out HC.out k hlt
          by_cases hc : (a0[k]'hlt) = 34 ∨ (a0[k]'hlt) = 92
          · have Hs := Lib.hid (quoteN_snoc2 a0 k hlt hc)
            obtain ⟨c, hcc⟩ : ∃ c : Nat, c = (a0[k]'hlt).toNat := ⟨_, rfl⟩
            have hc' : c = 34 ∨ c = 92 := by rcases hc with h | h <;> (rw [hcc, h]; simp)
            rw [← hcc] at hcell Hs
            clear hc
            have Hcc := Lib.hid hcc
            clear hcc
            rcases hc' with rfl | rfl
            · go_wp2_with (first | ((with_reducible refine gate_builtin (b := .append) (xs := #[.tmp 24, .tmp 25]) rfl ?_); at_builtin; refine Kd.R_append (Kd.int .u8) (w0 := w) w.heap.size rfl (.tmp 24) (.tmp 25) 55 5 (.int .u8 0) 1 rfl Tryz.underlying55 info5 rfl (by decide) (by omega) u4 (quoteN (a0.data.toList.take k)) 92 [.int .u8 92] (fun j => j ≠ g) (fun _ => False) rfl rfl ?aP (fun _ hk => hk.elim) ?aF ?aO ?aB ?aS ?aL ?_; (case aP => exact rfl); (case aB => exact HB.out); (case aF => exact (fun j hj => by have := blk_lt HG.out; omega)); (case aO => exact HO.out); (case aS => exact (HB.out).size); (case aL => have := HL.out; (try simp only [List.length_append, List.length_singleton]); omega); intro v5 w5 ho hb hg hat; have HO5 := Aside0.mk ho; have HB5 := Aside0.mk hb; have HG5 := Aside0.mk (blk_grown HG.out hg (Kd.R_away HO.out (fun _ h => h))); clear ho hb hg hat) | ((with_reducible refine gate_builtin (b := .append) (xs := #[.tmp 27, .tmp 29]) rfl ?_); at_builtin; refine Kd.R_append (Kd.int .u8) (w0 := w) w.heap.size rfl (.tmp 27) (.tmp 29) 55 5 (.int .u8 0) 1 rfl Tryz.underlying55 info5 rfl (by decide) (by omega) v5 ((quoteN (a0.data.toList.take k)) ++ [92]) 34 [.int .u8 34] (fun j => j ≠ g) (fun _ => False) rfl rfl ?aP (fun _ hk => hk.elim) ?aF ?aO ?aB ?aS ?aL ?_; (case aP => exact rfl); (case aB => exact HB5.out); (case aF => exact (fun j hj => by have := blk_lt HG5.out; omega)); (case aO => exact HO5.out); (case aS => exact (HB5.out).size); (case aL => have := HL.out; (try simp only [List.length_append, List.length_singleton]); omega); intro v6 w6 ho hb hg hat; have HO6 := Aside0.mk ho; have HB6 := Aside0.mk hb; have HG6 := Aside0.mk (blk_grown HG5.out hg (Kd.R_away HO5.out (fun _ h => h))); clear ho hb hg hat))
              go_roundw
              case rel => exact ⟨k + 1, by go_num, hlt, ⟨by rw [Hs.out]; exact HO6.out⟩, ⟨HG6.out⟩, ⟨HB6.out⟩⟩
              case measure => simp [intOf]; omega
            · go_wp2_with (first | ((with_reducible refine gate_builtin (b := .append) (xs := #[.tmp 24, .tmp 25]) rfl ?_); at_builtin; refine Kd.R_append (Kd.int .u8) (w0 := w) w.heap.size rfl (.tmp 24) (.tmp 25) 55 5 (.int .u8 0) 1 rfl Tryz.underlying55 info5 rfl (by decide) (by omega) u4 (quoteN (a0.data.toList.take k)) 92 [.int .u8 92] (fun j => j ≠ g) (fun _ => False) rfl rfl ?aP (fun _ hk => hk.elim) ?aF ?aO ?aB ?aS ?aL ?_; (case aP => exact rfl); (case aB => exact HB.out); (case aF => exact (fun j hj => by have := blk_lt HG.out; omega)); (case aO => exact HO.out); (case aS => exact (HB.out).size); (case aL => have := HL.out; (try simp only [List.length_append, List.length_singleton]); omega); intro v5 w5 ho hb hg hat; have HO5 := Aside0.mk ho; have HB5 := Aside0.mk hb; have HG5 := Aside0.mk (blk_grown HG.out hg (Kd.R_away HO.out (fun _ h => h))); clear ho hb hg hat) | ((with_reducible refine gate_builtin (b := .append) (xs := #[.tmp 27, .tmp 29]) rfl ?_); at_builtin; refine Kd.R_append (Kd.int .u8) (w0 := w) w.heap.size rfl (.tmp 27) (.tmp 29) 55 5 (.int .u8 0) 1 rfl Tryz.underlying55 info5 rfl (by decide) (by omega) v5 ((quoteN (a0.data.toList.take k)) ++ [92]) 92 [.int .u8 92] (fun j => j ≠ g) (fun _ => False) rfl rfl ?aP (fun _ hk => hk.elim) ?aF ?aO ?aB ?aS ?aL ?_; (case aP => exact rfl); (case aB => exact HB5.out); (case aF => exact (fun j hj => by have := blk_lt HG5.out; omega)); (case aO => exact HO5.out); (case aS => exact (HB5.out).size); (case aL => have := HL.out; (try simp only [List.length_append, List.length_singleton]); omega); intro v6 w6 ho hb hg hat; have HO6 := Aside0.mk ho; have HB6 := Aside0.mk hb; have HG6 := Aside0.mk (blk_grown HG5.out hg (Kd.R_away HO5.out (fun _ h => h))); clear ho hb hg hat))
              go_roundw
              case rel => exact ⟨k + 1, by go_num, hlt, ⟨by rw [Hs.out]; exact HO6.out⟩, ⟨HG6.out⟩, ⟨HB6.out⟩⟩
              case measure => simp [intOf]; omega
          · have Hs := Lib.hid (quoteN_snoc1 a0 k hlt hc)
            obtain ⟨c, hcc⟩ : ∃ c : Nat, c = (a0[k]'hlt).toNat := ⟨_, rfl⟩
            have h1 : ¬ c = 34 := fun h => hc (.inl (UInt8.toNat_inj.mp (by rw [← hcc, h]; rfl)))
            have h2 : ¬ c = 92 := fun h => hc (.inr (UInt8.toNat_inj.mp (by rw [← hcc, h]; rfl)))
            have h1b : ((c : Int) == 34) = false := beq_eq_false_iff_ne.mpr (by omega)
            have h2b : ((c : Int) == 92) = false := beq_eq_false_iff_ne.mpr (by omega)
            rw [← hcc] at hcell Hs
            clear hc h1 h2
            have Hcc := Lib.hid hcc
            clear hcc
            go_wp2_with (first | ((with_reducible refine gate_builtin (b := .append) (xs := #[.tmp 27, .tmp 29]) rfl ?_); at_builtin; refine Kd.R_append (Kd.int .u8) (w0 := w) w.heap.size rfl (.tmp 27) (.tmp 29) 55 5 (.int .u8 0) 1 rfl Tryz.underlying55 info5 rfl (by decide) (by omega) u4 (quoteN (a0.data.toList.take k)) (c : Int) [.int .u8 (c : Int)] (fun j => j ≠ g) (fun _ => False) rfl rfl ?aP (fun _ hk => hk.elim) ?aF ?aO ?aB ?aS ?aL ?_; (case aP => exact rfl); (case aB => exact HB.out); (case aF => exact (fun j hj => by have := blk_lt HG.out; omega)); (case aO => exact HO.out); (case aS => exact (HB.out).size); (case aL => have := HL.out; (try simp only [List.length_append, List.length_singleton]); omega); intro v5 w5 ho hb hg hat; have HO5 := Aside0.mk ho; have HB5 := Aside0.mk hb; have HG5 := Aside0.mk (blk_grown HG.out hg (Kd.R_away HO.out (fun _ h => h))); clear ho hb hg hat))
            go_roundw
            case rel => exact ⟨k + 1, by go_num, hlt, ⟨by rw [Hs.out]; exact HO5.out⟩, ⟨HG5.out⟩, ⟨HB5.out⟩⟩
            case measure => simp [intOf]; omega
        · have hk' : k = a0.size := by omega
          subst hk'
          have HF := Lib.hid (show quoteN (a0.data.toList.take a0.size) = quoteN a0.data.toList by rw [List.take_of_length_le (by simp)])
          go_wp2_with (first | ((with_reducible refine gate_builtin (b := .append) (xs := #[.tmp 32, .tmp 33]) rfl ?_); at_builtin; refine Kd.R_append (Kd.int .u8) (w0 := w) w.heap.size rfl (.tmp 32) (.tmp 33) 55 5 (.int .u8 0) 1 rfl Tryz.underlying55 info5 rfl (by decide) (by omega) u4 (quoteN (a0.data.toList.take a0.size)) 34 [.int .u8 34] (fun j => j ≠ g) (fun _ => False) rfl rfl ?aP (fun _ hk => hk.elim) ?aF ?aO ?aB ?aS ?aL ?_; (case aP => exact rfl); (case aB => exact HB.out); (case aF => exact (fun j hj => by have := blk_lt HG.out; omega)); (case aO => exact HO.out); (case aS => exact (HB.out).size); (case aL => have := HL.out; (try simp only [List.length_append, List.length_singleton]); omega); intro v5 w5 ho hb hg hat; have hcs := own_string (P := Tryz.prog) Tryz.underlying55 Tryz.underlying5 Tryz.underlying9 (Kd.own_of_R ho); have HB5 := Aside0.mk hb; clear ho hb hg hat))
          go_ret2
          refine ⟨?_, HB5.out⟩
          rw [HF.out, quote_str]
          rfl
    · rw [if_neg hp] at h
      simp only [Option.some.injEq, Prod.mk.injEq] at h
      obtain ⟨rfl, rfl⟩ := h
      have Hp := Lib.hid (Bool.eq_false_iff.mpr hp)
      clear hp
      go_enter Tryz.func53, Tryz.ntmps53
      go_wp2_with (go_at_call 28; refine (text_Plain.calls a0 false _ (by unfold text_Plain.f; rw [Hp.out])).mono ?_; rintro e w1 ⟨rfl, hb⟩)
      go_ret2
      exact ⟨rfl, hb⟩
  · rw [if_neg hsz] at h
    exact absurd h (by simp)


/-! ### addr_Text: function 25 -/
def addr_Text.f (k : Nat) (a0_0 : ByteArray) (a0_1 : ByteArray) : Option (ByteArray) := (addr_May.f a0_0 a0_1).bind fun t131 => (if t131 = true then ((text_DotAtom.f k a0_0).bind fun t132 => (if t132 = true then (if a0_0.size + 1 ≤ 9223372036854775807 then (if (a0_0 ++ (⟨#[64]⟩ : ByteArray)).size + a0_1.size ≤ 9223372036854775807 then (some ((a0_0 ++ (⟨#[64]⟩ : ByteArray)) ++ a0_1)) else (none)) else (none)) else ((text_Quote.f a0_0).bind fun bt133 => (if bt133.1.size + 1 ≤ 9223372036854775807 then (if (bt133.1 ++ (⟨#[64]⟩ : ByteArray)).size + a0_1.size ≤ 9223372036854775807 then (some ((bt133.1 ++ (⟨#[64]⟩ : ByteArray)) ++ a0_1)) else (none)) else (none))))) else (some (⟨#[]⟩ : ByteArray)))
theorem addr_Text.mono : ∀ a0 a1 k, LeO (addr_Text.f k a0 a1) (addr_Text.f (k + 1) a0 a1) := by
 intro a0 a1 k
 unfold addr_Text.f
 repeat' first
   | (with_reducible first | exact text_DotAtom.mono _ _ | exact LeO.refl _ | exact LeO.none _ | refine LeO.ite ?_ ?_ | refine LeO.bind ?_ (fun _ => ?_))
theorem addr_Text.calls (k : Nat) (a0_0 : ByteArray) (a0_1 : ByteArray) (r : ByteArray) (w : World) (hG : Glob w) (h : addr_Text.f k a0_0 a0_1 = some r) :
  Calls Tryz.prog 25 #[.agg #[.string a0_0, .string a0_1]] w fun e w' => e = .returned (.string r) ∧ Below w.heap.size w w' := by
 have hu24 := Tryz.underlying24
 have HB := Aside0.mk (Below.refl w.heap.size w)
 have HG := Aside0.mk hG
 clear hG
 have H : ((addr_May.f a0_0 a0_1).bind fun t131 => (if t131 = true then ((text_DotAtom.f k a0_0).bind fun t132 => (if t132 = true then (if a0_0.size + 1 ≤ 9223372036854775807 then (if (a0_0 ++ (⟨#[64]⟩ : ByteArray)).size + a0_1.size ≤ 9223372036854775807 then (some ((a0_0 ++ (⟨#[64]⟩ : ByteArray)) ++ a0_1)) else (none)) else (none)) else ((text_Quote.f a0_0).bind fun bt133 => (if bt133.1.size + 1 ≤ 9223372036854775807 then (if (bt133.1 ++ (⟨#[64]⟩ : ByteArray)).size + a0_1.size ≤ 9223372036854775807 then (some ((bt133.1 ++ (⟨#[64]⟩ : ByteArray)) ++ a0_1)) else (none)) else (none))))) else (some (⟨#[]⟩ : ByteArray)))) = some r := h
 clear h
 obtain ⟨t131, A20, H⟩ := Option.bind_eq_some_iff.mp H
 replace H : (if t131 = true then ((text_DotAtom.f k a0_0).bind fun t132 => (if t132 = true then (if a0_0.size + 1 ≤ 9223372036854775807 then (if (a0_0 ++ (⟨#[64]⟩ : ByteArray)).size + a0_1.size ≤ 9223372036854775807 then (some ((a0_0 ++ (⟨#[64]⟩ : ByteArray)) ++ a0_1)) else (none)) else (none)) else ((text_Quote.f a0_0).bind fun bt133 => (if bt133.1.size + 1 ≤ 9223372036854775807 then (if (bt133.1 ++ (⟨#[64]⟩ : ByteArray)).size + a0_1.size ≤ 9223372036854775807 then (some ((bt133.1 ++ (⟨#[64]⟩ : ByteArray)) ++ a0_1)) else (none)) else (none))))) else (some (⟨#[]⟩ : ByteArray))) = some r := H
 have A2 := Aside0.mk A20
 clear A20
 by_cases c3 : t131 = true
 ·subst c3
  replace H : ((text_DotAtom.f k a0_0).bind fun t132 => (if t132 = true then (if a0_0.size + 1 ≤ 9223372036854775807 then (if (a0_0 ++ (⟨#[64]⟩ : ByteArray)).size + a0_1.size ≤ 9223372036854775807 then (some ((a0_0 ++ (⟨#[64]⟩ : ByteArray)) ++ a0_1)) else (none)) else (none)) else ((text_Quote.f a0_0).bind fun bt133 => (if bt133.1.size + 1 ≤ 9223372036854775807 then (if (bt133.1 ++ (⟨#[64]⟩ : ByteArray)).size + a0_1.size ≤ 9223372036854775807 then (some ((bt133.1 ++ (⟨#[64]⟩ : ByteArray)) ++ a0_1)) else (none)) else (none))))) = some r := by rw [if_pos rfl] at H; exact H
  obtain ⟨t132, A40, H⟩ := Option.bind_eq_some_iff.mp H
  replace H : (if t132 = true then (if a0_0.size + 1 ≤ 9223372036854775807 then (if (a0_0 ++ (⟨#[64]⟩ : ByteArray)).size + a0_1.size ≤ 9223372036854775807 then (some ((a0_0 ++ (⟨#[64]⟩ : ByteArray)) ++ a0_1)) else (none)) else (none)) else ((text_Quote.f a0_0).bind fun bt133 => (if bt133.1.size + 1 ≤ 9223372036854775807 then (if (bt133.1 ++ (⟨#[64]⟩ : ByteArray)).size + a0_1.size ≤ 9223372036854775807 then (some ((bt133.1 ++ (⟨#[64]⟩ : ByteArray)) ++ a0_1)) else (none)) else (none)))) = some r := H
  have A4 := Aside0.mk A40
  clear A40
  by_cases c5 : t132 = true
  ·subst c5
   replace H : (if a0_0.size + 1 ≤ 9223372036854775807 then (if (a0_0 ++ (⟨#[64]⟩ : ByteArray)).size + a0_1.size ≤ 9223372036854775807 then (some ((a0_0 ++ (⟨#[64]⟩ : ByteArray)) ++ a0_1)) else (none)) else (none)) = some r := by rw [if_pos rfl] at H; exact H
   by_cases c6 : a0_0.size + 1 ≤ 9223372036854775807
   rotate_left
   ·rw [if_neg c6] at H
    exact ab H
   rw [if_pos c6] at H
   have c6b0 := eq_true c6
   have c6b1 : decide (a0_0.size + 1 ≤ 9223372036854775807) = true := decide_eq_true c6
   try have c6b2 : (9223372036854775807 < a0_0.size + 1) = False := eq_false (Nat.not_lt.2 c6)
   by_cases c7 : (a0_0 ++ (⟨#[64]⟩ : ByteArray)).size + a0_1.size ≤ 9223372036854775807
   rotate_left
   ·rw [if_neg c7] at H
    exact ab H
   rw [if_pos c7] at H
   have c7b0 := eq_true c7
   have c7b1 : decide ((a0_0 ++ (⟨#[64]⟩ : ByteArray)).size + a0_1.size ≤ 9223372036854775807) = true := decide_eq_true c7
   try have c7b2 : (9223372036854775807 < (a0_0 ++ (⟨#[64]⟩ : ByteArray)).size + a0_1.size) = False := eq_false (Nat.not_lt.2 c7)
   try (have c7b2y := c7b2; rw [ByteArray.size_append] at c7b2y)
   try have c7b2z : (9223372036854775807 < a0_0.size + 1 + a0_1.size) = False := eq_false (fun h_ => by have g_ := c7; simp only [ByteArray.size_append, show (⟨#[64]⟩ : ByteArray).size = 1 from rfl] at g_; omega)
   obtain rfl := Option.some.inj H
   go_enter Tryz.func25, Tryz.ntmps25
   go_wp2_with (first | ((with_reducible refine gate_dst (N := 1) rfl ?_); refine box_event ?hg (N := 1) ?hd (cs := #[.string a0_0, .string a0_1]) (t := 24) ?hr ?_; (case hd => rfl); (case hg => rfl); (case hr => first | (go_simp; done) | (go_simp; rfl)); intro gb130 hg w8 hbox hb; have BK130 := Aside0.mk (hbox); have GW130 := Aside0.mk (gz hg : w.heap.size ≤ gb130); have GE130 := Aside0.mk (gz hg : w.heap.size ≤ gb130); replace HB := Aside0.mk (below_step bl hb); clear hb hbox hg; have hcz9_0 := cz BK130.out 0 (.string a0_0); have hcz9_1 := cz BK130.out 1 (.string a0_1); have hfz9_0 := blk_frozen BK130.out 0; have hfz9_1 := blk_frozen BK130.out 1) | ((with_reducible refine gate_callee (f := 12) rfl ?_); refine goesL_ (some 5) rfl rfl Tryz.func12 kf rfl #[.agg #[.string a0_0, .string a0_1]] rfl ml ?_; (with_reducible refine (addr_May.calls a0_0 a0_1 true _ ?side1 A2.out).mono ?_); (case side1 => exact Glob.below HG.out bl); rintro e w10 ⟨rfl, hb⟩; refine ⟨_, rfl, ?_⟩; replace BK130 := Aside0.mk (kb BK130.out hb); replace HB := Aside0.mk (below_step bl hb); (try clear hb); (try clear hb2); (try clear hk); (try clear hi); have hcz11_0 := cz BK130.out 0 (.string a0_0); have hcz11_1 := cz BK130.out 1 (.string a0_1); have hfz11_0 := blk_frozen BK130.out 0; have hfz11_1 := blk_frozen BK130.out 1) | ((with_reducible refine gate_callee (f := 52) rfl ?_); refine goesL_ (some 10) rfl rfl Tryz.func52 kf rfl #[.string a0_0] rfl ml ?_; (with_reducible refine (text_DotAtom.calls k a0_0 true _ ?side1 A4.out).mono ?_); (case side1 => exact Glob.below HG.out bl); rintro e w12 ⟨rfl, hb⟩; refine ⟨_, rfl, ?_⟩; replace BK130 := Aside0.mk (kb BK130.out hb); replace HB := Aside0.mk (below_step bl hb); (try clear hb); (try clear hb2); (try clear hk); (try clear hi); have hcz13_0 := cz BK130.out 0 (.string a0_0); have hcz13_1 := cz BK130.out 1 (.string a0_1); have hfz13_0 := blk_frozen BK130.out 0; have hfz13_1 := blk_frozen BK130.out 1))
   go_ret
   exact ⟨rf, bl⟩
  ·replace c5 := Bool.eq_false_iff.mpr c5
   subst c5
   replace H : ((text_Quote.f a0_0).bind fun bt133 => (if bt133.1.size + 1 ≤ 9223372036854775807 then (if (bt133.1 ++ (⟨#[64]⟩ : ByteArray)).size + a0_1.size ≤ 9223372036854775807 then (some ((bt133.1 ++ (⟨#[64]⟩ : ByteArray)) ++ a0_1)) else (none)) else (none))) = some r := by rw [if_neg (show ¬ (false = true) by decide)] at H; exact H
   obtain ⟨⟨t133, t134⟩, A140, H⟩ := Option.bind_eq_some_iff.mp H
   replace H : (if t133.size + 1 ≤ 9223372036854775807 then (if (t133 ++ (⟨#[64]⟩ : ByteArray)).size + a0_1.size ≤ 9223372036854775807 then (some ((t133 ++ (⟨#[64]⟩ : ByteArray)) ++ a0_1)) else (none)) else (none)) = some r := H
   have A14 := Aside0.mk A140
   clear A140
   by_cases c15 : t133.size + 1 ≤ 9223372036854775807
   rotate_left
   ·rw [if_neg c15] at H
    exact ab H
   rw [if_pos c15] at H
   have c15b0 := eq_true c15
   have c15b1 : decide (t133.size + 1 ≤ 9223372036854775807) = true := decide_eq_true c15
   try have c15b2 : (9223372036854775807 < t133.size + 1) = False := eq_false (Nat.not_lt.2 c15)
   by_cases c16 : (t133 ++ (⟨#[64]⟩ : ByteArray)).size + a0_1.size ≤ 9223372036854775807
   rotate_left
   ·rw [if_neg c16] at H
    exact ab H
   rw [if_pos c16] at H
   have c16b0 := eq_true c16
   have c16b1 : decide ((t133 ++ (⟨#[64]⟩ : ByteArray)).size + a0_1.size ≤ 9223372036854775807) = true := decide_eq_true c16
   try have c16b2 : (9223372036854775807 < (t133 ++ (⟨#[64]⟩ : ByteArray)).size + a0_1.size) = False := eq_false (Nat.not_lt.2 c16)
   try (have c16b2y := c16b2; rw [ByteArray.size_append] at c16b2y)
   try have c16b2z : (9223372036854775807 < t133.size + 1 + a0_1.size) = False := eq_false (fun h_ => by have g_ := c16; simp only [ByteArray.size_append, show (⟨#[64]⟩ : ByteArray).size = 1 from rfl] at g_; omega)
   obtain rfl := Option.some.inj H
   go_enter Tryz.func25, Tryz.ntmps25
   go_wp2_with (first | ((with_reducible refine gate_dst (N := 1) rfl ?_); refine box_event ?hg (N := 1) ?hd (cs := #[.string a0_0, .string a0_1]) (t := 24) ?hr ?_; (case hd => rfl); (case hg => rfl); (case hr => first | (go_simp; done) | (go_simp; rfl)); intro gb130 hg w17 hbox hb; have BK130 := Aside0.mk (hbox); have GW130 := Aside0.mk (gz hg : w.heap.size ≤ gb130); have GE130 := Aside0.mk (gz hg : w.heap.size ≤ gb130); replace HB := Aside0.mk (below_step bl hb); clear hb hbox hg; have hcz18_0 := cz BK130.out 0 (.string a0_0); have hcz18_1 := cz BK130.out 1 (.string a0_1); have hfz18_0 := blk_frozen BK130.out 0; have hfz18_1 := blk_frozen BK130.out 1) | ((with_reducible refine gate_callee (f := 12) rfl ?_); refine goesL_ (some 5) rfl rfl Tryz.func12 kf rfl #[.agg #[.string a0_0, .string a0_1]] rfl ml ?_; (with_reducible refine (addr_May.calls a0_0 a0_1 true _ ?side1 A2.out).mono ?_); (case side1 => exact Glob.below HG.out bl); rintro e w19 ⟨rfl, hb⟩; refine ⟨_, rfl, ?_⟩; replace BK130 := Aside0.mk (kb BK130.out hb); replace HB := Aside0.mk (below_step bl hb); (try clear hb); (try clear hb2); (try clear hk); (try clear hi); have hcz20_0 := cz BK130.out 0 (.string a0_0); have hcz20_1 := cz BK130.out 1 (.string a0_1); have hfz20_0 := blk_frozen BK130.out 0; have hfz20_1 := blk_frozen BK130.out 1) | ((with_reducible refine gate_callee (f := 52) rfl ?_); refine goesL_ (some 10) rfl rfl Tryz.func52 kf rfl #[.string a0_0] rfl ml ?_; (with_reducible refine (text_DotAtom.calls k a0_0 false _ ?side1 A4.out).mono ?_); (case side1 => exact Glob.below HG.out bl); rintro e w21 ⟨rfl, hb⟩; refine ⟨_, rfl, ?_⟩; replace BK130 := Aside0.mk (kb BK130.out hb); replace HB := Aside0.mk (below_step bl hb); (try clear hb); (try clear hb2); (try clear hk); (try clear hi)) | ((with_reducible refine gate_callee (f := 53) rfl ?_); refine goesL_ (some 14) rfl rfl Tryz.func53 kf rfl #[.string a0_0] rfl ml ?_; (with_reducible refine (text_Quote.calls a0_0 t133 t134 _ A14.out).mono ?_); rintro e w22 ⟨rfl, hb⟩; refine ⟨_, rfl, ?_⟩; replace BK130 := Aside0.mk (kb BK130.out hb); replace HB := Aside0.mk (below_step bl hb); (try clear hb); (try clear hb2); (try clear hk); (try clear hi); have hcz23_0 := cz BK130.out 0 (.string a0_0); have hcz23_1 := cz BK130.out 1 (.string a0_1); have hfz23_0 := blk_frozen BK130.out 0; have hfz23_1 := blk_frozen BK130.out 1))
   go_ret
   exact ⟨rf, bl⟩
 ·replace c3 := Bool.eq_false_iff.mpr c3
  subst c3
  replace H : (some (⟨#[]⟩ : ByteArray)) = some r := by rw [if_neg (show ¬ (false = true) by decide)] at H; exact H
  obtain rfl := Option.some.inj H
  go_enter Tryz.func25, Tryz.ntmps25
  go_wp2_with (first | ((with_reducible refine gate_dst (N := 1) rfl ?_); refine box_event ?hg (N := 1) ?hd (cs := #[.string a0_0, .string a0_1]) (t := 24) ?hr ?_; (case hd => rfl); (case hg => rfl); (case hr => first | (go_simp; done) | (go_simp; rfl)); intro gb130 hg w24 hbox hb; have BK130 := Aside0.mk (hbox); have GW130 := Aside0.mk (gz hg : w.heap.size ≤ gb130); have GE130 := Aside0.mk (gz hg : w.heap.size ≤ gb130); replace HB := Aside0.mk (below_step bl hb); clear hb hbox hg; have hcz25_0 := cz BK130.out 0 (.string a0_0); have hcz25_1 := cz BK130.out 1 (.string a0_1); have hfz25_0 := blk_frozen BK130.out 0; have hfz25_1 := blk_frozen BK130.out 1) | ((with_reducible refine gate_callee (f := 12) rfl ?_); refine goesL_ (some 5) rfl rfl Tryz.func12 kf rfl #[.agg #[.string a0_0, .string a0_1]] rfl ml ?_; (with_reducible refine (addr_May.calls a0_0 a0_1 false _ ?side1 A2.out).mono ?_); (case side1 => exact Glob.below HG.out bl); rintro e w26 ⟨rfl, hb⟩; refine ⟨_, rfl, ?_⟩; replace BK130 := Aside0.mk (kb BK130.out hb); replace HB := Aside0.mk (below_step bl hb); (try clear hb); (try clear hb2); (try clear hk); (try clear hi)))
  go_ret
  exact ⟨rf, bl⟩

/-! ### path_Path_Text: function 8 -/
def path_Path_Text.f (k : Nat) (a0_0 : Bool) (a0_1 : Bool) (l0_2 : List ByteArray) (a0_3 : ByteArray) (a0_4 : ByteArray) : Option (ByteArray) := if a0_0 = true then (some (⟨#[60, 62]⟩ : ByteArray)) else (if a0_1 = true then (some (⟨#[60, 80, 111, 115, 116, 109, 97, 115, 116, 101, 114, 62]⟩ : ByteArray)) else ((addr_May.f a0_3 a0_4).bind fun t136 => (if t136 = true then ((addr_Text.f k a0_3 a0_4).bind fun t137 => (if 1 + t137.size ≤ 9223372036854775807 then (if ((⟨#[60]⟩ : ByteArray) ++ t137).size + 1 ≤ 9223372036854775807 then (some (((⟨#[60]⟩ : ByteArray) ++ t137) ++ (⟨#[62]⟩ : ByteArray))) else (none)) else (none))) else (some (⟨#[]⟩ : ByteArray)))))
theorem path_Path_Text.mono : ∀ a0 a1 a2 a3 a4 k, LeO (path_Path_Text.f k a0 a1 a2 a3 a4) (path_Path_Text.f (k + 1) a0 a1 a2 a3 a4) := by
 intro a0 a1 a2 a3 a4 k
 unfold path_Path_Text.f
 repeat' first
   | (with_reducible first | exact addr_Text.mono _ _ _ | exact LeO.refl _ | exact LeO.none _ | refine LeO.ite ?_ ?_ | refine LeO.bind ?_ (fun _ => ?_))
theorem path_Path_Text.calls (k : Nat) (a0_0 : Bool) (a0_1 : Bool) (A0_2 : Option Addr) (c0_2 : Nat) (l0_2 : List ByteArray) (a0_3 : ByteArray) (a0_4 : ByteArray) (r : ByteArray) (w : World) (hr0_2 : Kd.C Kd.string w A0_2 l0_2.length l0_2) (hc0_2 : l0_2.length ≤ c0_2) (hG : Glob w) (h : path_Path_Text.f k a0_0 a0_1 l0_2 a0_3 a0_4 = some r) :
  Calls Tryz.prog 8 #[.agg #[.bool a0_0, .bool a0_1, .slice A0_2 l0_2.length c0_2, .string a0_3, .string a0_4]] w fun e w' => e = .returned (.string r) ∧ Below w.heap.size w w' := by
 have hu26 := Tryz.underlying26
 have hu24 := Tryz.underlying24
 have HR0_2 := Aside0.mk hr0_2
 have HC0_2 := Aside0.mk hc0_2
 clear hr0_2 hc0_2
 have HB := Aside0.mk (Below.refl w.heap.size w)
 have HG := Aside0.mk hG
 clear hG
 have H : (if a0_0 = true then (some (⟨#[60, 62]⟩ : ByteArray)) else (if a0_1 = true then (some (⟨#[60, 80, 111, 115, 116, 109, 97, 115, 116, 101, 114, 62]⟩ : ByteArray)) else ((addr_May.f a0_3 a0_4).bind fun t136 => (if t136 = true then ((addr_Text.f k a0_3 a0_4).bind fun t137 => (if 1 + t137.size ≤ 9223372036854775807 then (if ((⟨#[60]⟩ : ByteArray) ++ t137).size + 1 ≤ 9223372036854775807 then (some (((⟨#[60]⟩ : ByteArray) ++ t137) ++ (⟨#[62]⟩ : ByteArray))) else (none)) else (none))) else (some (⟨#[]⟩ : ByteArray)))))) = some r := h
 clear h
 by_cases c2 : a0_0 = true
 ·subst c2
  replace H : (some (⟨#[60, 62]⟩ : ByteArray)) = some r := by rw [if_pos rfl] at H; exact H
  obtain rfl := Option.some.inj H
  go_enter Tryz.func8, Tryz.ntmps8
  go_wp2_with (first | ((with_reducible refine gate_dst (N := 1) rfl ?_); refine box_event ?hg (N := 1) ?hd (cs := #[.bool true, .bool a0_1, .slice A0_2 l0_2.length c0_2, .string a0_3, .string a0_4]) (t := 26) ?hr ?_; (case hd => rfl); (case hg => rfl); (case hr => first | (go_simp; done) | (go_simp; rfl)); intro gb135 hg w3 hbox hb; have BK135 := Aside0.mk (hbox); have GW135 := Aside0.mk (gz hg : w.heap.size ≤ gb135); have GE135 := Aside0.mk (gz hg : w.heap.size ≤ gb135); replace HB := Aside0.mk (below_step bl hb); clear hb hbox hg; have hcz4_0 := cz BK135.out 0 (.bool true); have hcz4_1 := cz BK135.out 1 (.bool a0_1); have hcz4_2 := cz BK135.out 2 (.slice A0_2 l0_2.length c0_2); have hcz4_3 := cz BK135.out 3 (.string a0_3); have hcz4_4 := cz BK135.out 4 (.string a0_4); have hfz4_0 := blk_frozen BK135.out 0; have hfz4_1 := blk_frozen BK135.out 1; have hfz4_2 := blk_frozen BK135.out 2; have hfz4_3 := blk_frozen BK135.out 3; have hfz4_4 := blk_frozen BK135.out 4))
  go_ret
  exact ⟨rf, bl⟩
 ·replace c2 := Bool.eq_false_iff.mpr c2
  subst c2
  replace H : (if a0_1 = true then (some (⟨#[60, 80, 111, 115, 116, 109, 97, 115, 116, 101, 114, 62]⟩ : ByteArray)) else ((addr_May.f a0_3 a0_4).bind fun t136 => (if t136 = true then ((addr_Text.f k a0_3 a0_4).bind fun t137 => (if 1 + t137.size ≤ 9223372036854775807 then (if ((⟨#[60]⟩ : ByteArray) ++ t137).size + 1 ≤ 9223372036854775807 then (some (((⟨#[60]⟩ : ByteArray) ++ t137) ++ (⟨#[62]⟩ : ByteArray))) else (none)) else (none))) else (some (⟨#[]⟩ : ByteArray))))) = some r := by rw [if_neg (show ¬ (false = true) by decide)] at H; exact H
  by_cases c5 : a0_1 = true
  ·subst c5
   replace H : (some (⟨#[60, 80, 111, 115, 116, 109, 97, 115, 116, 101, 114, 62]⟩ : ByteArray)) = some r := by rw [if_pos rfl] at H; exact H
   obtain rfl := Option.some.inj H
   go_enter Tryz.func8, Tryz.ntmps8
   go_wp2_with (first | ((with_reducible refine gate_dst (N := 1) rfl ?_); refine box_event ?hg (N := 1) ?hd (cs := #[.bool false, .bool true, .slice A0_2 l0_2.length c0_2, .string a0_3, .string a0_4]) (t := 26) ?hr ?_; (case hd => rfl); (case hg => rfl); (case hr => first | (go_simp; done) | (go_simp; rfl)); intro gb135 hg w6 hbox hb; have BK135 := Aside0.mk (hbox); have GW135 := Aside0.mk (gz hg : w.heap.size ≤ gb135); have GE135 := Aside0.mk (gz hg : w.heap.size ≤ gb135); replace HB := Aside0.mk (below_step bl hb); clear hb hbox hg; have hcz7_0 := cz BK135.out 0 (.bool false); have hcz7_1 := cz BK135.out 1 (.bool true); have hcz7_2 := cz BK135.out 2 (.slice A0_2 l0_2.length c0_2); have hcz7_3 := cz BK135.out 3 (.string a0_3); have hcz7_4 := cz BK135.out 4 (.string a0_4); have hfz7_0 := blk_frozen BK135.out 0; have hfz7_1 := blk_frozen BK135.out 1; have hfz7_2 := blk_frozen BK135.out 2; have hfz7_3 := blk_frozen BK135.out 3; have hfz7_4 := blk_frozen BK135.out 4))
   go_ret
   exact ⟨rf, bl⟩
  ·replace c5 := Bool.eq_false_iff.mpr c5
   subst c5
   replace H : ((addr_May.f a0_3 a0_4).bind fun t136 => (if t136 = true then ((addr_Text.f k a0_3 a0_4).bind fun t137 => (if 1 + t137.size ≤ 9223372036854775807 then (if ((⟨#[60]⟩ : ByteArray) ++ t137).size + 1 ≤ 9223372036854775807 then (some (((⟨#[60]⟩ : ByteArray) ++ t137) ++ (⟨#[62]⟩ : ByteArray))) else (none)) else (none))) else (some (⟨#[]⟩ : ByteArray)))) = some r := by rw [if_neg (show ¬ (false = true) by decide)] at H; exact H
   obtain ⟨t136, A80, H⟩ := Option.bind_eq_some_iff.mp H
   replace H : (if t136 = true then ((addr_Text.f k a0_3 a0_4).bind fun t137 => (if 1 + t137.size ≤ 9223372036854775807 then (if ((⟨#[60]⟩ : ByteArray) ++ t137).size + 1 ≤ 9223372036854775807 then (some (((⟨#[60]⟩ : ByteArray) ++ t137) ++ (⟨#[62]⟩ : ByteArray))) else (none)) else (none))) else (some (⟨#[]⟩ : ByteArray))) = some r := H
   have A8 := Aside0.mk A80
   clear A80
   by_cases c9 : t136 = true
   ·subst c9
    replace H : ((addr_Text.f k a0_3 a0_4).bind fun t137 => (if 1 + t137.size ≤ 9223372036854775807 then (if ((⟨#[60]⟩ : ByteArray) ++ t137).size + 1 ≤ 9223372036854775807 then (some (((⟨#[60]⟩ : ByteArray) ++ t137) ++ (⟨#[62]⟩ : ByteArray))) else (none)) else (none))) = some r := by rw [if_pos rfl] at H; exact H
    obtain ⟨t137, A100, H⟩ := Option.bind_eq_some_iff.mp H
    replace H : (if 1 + t137.size ≤ 9223372036854775807 then (if ((⟨#[60]⟩ : ByteArray) ++ t137).size + 1 ≤ 9223372036854775807 then (some (((⟨#[60]⟩ : ByteArray) ++ t137) ++ (⟨#[62]⟩ : ByteArray))) else (none)) else (none)) = some r := H
    have A10 := Aside0.mk A100
    clear A100
    by_cases c11 : 1 + t137.size ≤ 9223372036854775807
    rotate_left
    ·rw [if_neg c11] at H
     exact ab H
    rw [if_pos c11] at H
    have c11b0 := eq_true c11
    have c11b1 : decide (1 + t137.size ≤ 9223372036854775807) = true := decide_eq_true c11
    try have c11b2 : (9223372036854775807 < 1 + t137.size) = False := eq_false (Nat.not_lt.2 c11)
    by_cases c12 : ((⟨#[60]⟩ : ByteArray) ++ t137).size + 1 ≤ 9223372036854775807
    rotate_left
    ·rw [if_neg c12] at H
     exact ab H
    rw [if_pos c12] at H
    have c12b0 := eq_true c12
    have c12b1 : decide (((⟨#[60]⟩ : ByteArray) ++ t137).size + 1 ≤ 9223372036854775807) = true := decide_eq_true c12
    try have c12b2 : (9223372036854775807 < ((⟨#[60]⟩ : ByteArray) ++ t137).size + 1) = False := eq_false (Nat.not_lt.2 c12)
    try (have c12b2y := c12b2; rw [ByteArray.size_append] at c12b2y)
    try have c12b2z : (9223372036854775807 < 1 + t137.size + 1) = False := eq_false (fun h_ => by have g_ := c12; simp only [ByteArray.size_append, show (⟨#[60]⟩ : ByteArray).size = 1 from rfl] at g_; omega)
    obtain rfl := Option.some.inj H
    go_enter Tryz.func8, Tryz.ntmps8
    go_wp2_with (first | ((with_reducible refine gate_dst (N := 1) rfl ?_); refine box_event ?hg (N := 1) ?hd (cs := #[.bool false, .bool false, .slice A0_2 l0_2.length c0_2, .string a0_3, .string a0_4]) (t := 26) ?hr ?_; (case hd => rfl); (case hg => rfl); (case hr => first | (go_simp; done) | (go_simp; rfl)); intro gb135 hg w13 hbox hb; have BK135 := Aside0.mk (hbox); have GW135 := Aside0.mk (gz hg : w.heap.size ≤ gb135); have GE135 := Aside0.mk (gz hg : w.heap.size ≤ gb135); replace HB := Aside0.mk (below_step bl hb); clear hb hbox hg; have hcz14_0 := cz BK135.out 0 (.bool false); have hcz14_1 := cz BK135.out 1 (.bool false); have hcz14_2 := cz BK135.out 2 (.slice A0_2 l0_2.length c0_2); have hcz14_3 := cz BK135.out 3 (.string a0_3); have hcz14_4 := cz BK135.out 4 (.string a0_4); have hfz14_0 := blk_frozen BK135.out 0; have hfz14_1 := blk_frozen BK135.out 1; have hfz14_2 := blk_frozen BK135.out 2; have hfz14_3 := blk_frozen BK135.out 3; have hfz14_4 := blk_frozen BK135.out 4) | ((with_reducible refine gate_callee (f := 12) rfl ?_); refine goesL_ (some 12) rfl rfl Tryz.func12 kf rfl #[.agg #[.string a0_3, .string a0_4]] rfl ml ?_; (with_reducible refine (addr_May.calls a0_3 a0_4 true _ ?side1 A8.out).mono ?_); (case side1 => exact Glob.below HG.out bl); rintro e w15 ⟨rfl, hb⟩; refine ⟨_, rfl, ?_⟩; replace BK135 := Aside0.mk (kb BK135.out hb); replace HB := Aside0.mk (below_step bl hb); (try clear hb); (try clear hb2); (try clear hk); (try clear hi); have hcz16_0 := cz BK135.out 0 (.bool false); have hcz16_1 := cz BK135.out 1 (.bool false); have hcz16_2 := cz BK135.out 2 (.slice A0_2 l0_2.length c0_2); have hcz16_3 := cz BK135.out 3 (.string a0_3); have hcz16_4 := cz BK135.out 4 (.string a0_4); have hfz16_0 := blk_frozen BK135.out 0; have hfz16_1 := blk_frozen BK135.out 1; have hfz16_2 := blk_frozen BK135.out 2; have hfz16_3 := blk_frozen BK135.out 3; have hfz16_4 := blk_frozen BK135.out 4) | ((with_reducible refine gate_callee (f := 25) rfl ?_); refine goesL_ (some 16) rfl rfl Tryz.func25 kf rfl #[.agg #[.string a0_3, .string a0_4]] rfl ml ?_; (with_reducible refine (addr_Text.calls k a0_3 a0_4 t137 _ ?side1 A10.out).mono ?_); (case side1 => exact Glob.below HG.out bl); rintro e w17 ⟨rfl, hb⟩; refine ⟨_, rfl, ?_⟩; replace BK135 := Aside0.mk (kb BK135.out hb); replace HB := Aside0.mk (below_step bl hb); (try clear hb); (try clear hb2); (try clear hk); (try clear hi)))
    go_ret
    exact ⟨rf, bl⟩
   ·replace c9 := Bool.eq_false_iff.mpr c9
    subst c9
    replace H : (some (⟨#[]⟩ : ByteArray)) = some r := by rw [if_neg (show ¬ (false = true) by decide)] at H; exact H
    obtain rfl := Option.some.inj H
    go_enter Tryz.func8, Tryz.ntmps8
    go_wp2_with (first | ((with_reducible refine gate_dst (N := 1) rfl ?_); refine box_event ?hg (N := 1) ?hd (cs := #[.bool false, .bool false, .slice A0_2 l0_2.length c0_2, .string a0_3, .string a0_4]) (t := 26) ?hr ?_; (case hd => rfl); (case hg => rfl); (case hr => first | (go_simp; done) | (go_simp; rfl)); intro gb135 hg w18 hbox hb; have BK135 := Aside0.mk (hbox); have GW135 := Aside0.mk (gz hg : w.heap.size ≤ gb135); have GE135 := Aside0.mk (gz hg : w.heap.size ≤ gb135); replace HB := Aside0.mk (below_step bl hb); clear hb hbox hg; have hcz19_0 := cz BK135.out 0 (.bool false); have hcz19_1 := cz BK135.out 1 (.bool false); have hcz19_2 := cz BK135.out 2 (.slice A0_2 l0_2.length c0_2); have hcz19_3 := cz BK135.out 3 (.string a0_3); have hcz19_4 := cz BK135.out 4 (.string a0_4); have hfz19_0 := blk_frozen BK135.out 0; have hfz19_1 := blk_frozen BK135.out 1; have hfz19_2 := blk_frozen BK135.out 2; have hfz19_3 := blk_frozen BK135.out 3; have hfz19_4 := blk_frozen BK135.out 4) | ((with_reducible refine gate_callee (f := 12) rfl ?_); refine goesL_ (some 12) rfl rfl Tryz.func12 kf rfl #[.agg #[.string a0_3, .string a0_4]] rfl ml ?_; (with_reducible refine (addr_May.calls a0_3 a0_4 false _ ?side1 A8.out).mono ?_); (case side1 => exact Glob.below HG.out bl); rintro e w20 ⟨rfl, hb⟩; refine ⟨_, rfl, ?_⟩; replace BK135 := Aside0.mk (kb BK135.out hb); replace HB := Aside0.mk (below_step bl hb); (try clear hb); (try clear hb2); (try clear hk); (try clear hi)))
    go_ret
    exact ⟨rf, bl⟩

/-! ### postriderref04_plain: function 82 -/
def postriderref04_plain.f (a0 : Int) : Option (Bool) := if a0 ≥ 32 then (some (decide (a0 ≤ 126))) else (some false)
theorem postriderref04_plain.calls (a0 : Int) (r : Bool) (w : World) (h : postriderref04_plain.f a0 = some r) :
  Calls Tryz.prog 82 #[.int .u8 a0] w fun e w' => e = .returned (.bool r) ∧ Drawn0 w w' := by
 have H : (if a0 ≥ 32 then (some (decide (a0 ≤ 126))) else (some false)) = some r := h
 clear h
 by_cases c2 : a0 ≥ 32
 ·rw [if_pos c2] at H
  have c2b0 : decide (32 ≤ a0) = true := decide_eq_true c2
  clear c2
  obtain rfl := Option.some.inj H
  go_enter Tryz.func82, Tryz.ntmps82
  go_wp2
  go_ret
  exact ⟨by first | rfl | (simp [bneNil]; done) | (simp; done) | (simp [*]; done), dr⟩
 ·rw [if_neg c2] at H
  have c2b0 : decide (32 ≤ a0) = false := decide_eq_false c2
  clear c2
  obtain rfl := Option.some.inj H
  go_enter Tryz.func82, Tryz.ntmps82
  go_wp2
  go_ret
  exact ⟨by first | rfl | (simp [bneNil]; done) | (simp; done) | (simp [*]; done), dr⟩

/-! ### postriderref04_Plain: function 54 -/
def postriderref04_Plain.l0 : Nat → ByteArray → Int → Option (Bool)
 | 0, _, _ => none
 | k + 1, x0, x3 => if x3 < (x0.size : Int) then (if 0 ≤ x3 then ((postriderref04_plain.f (bt x0 x3)).bind fun t138 => (if t138 = true then (postriderref04_Plain.l0 k x0 (wrap64 (x3 + 1))) else (some false))) else (none)) else (some true)
def postriderref04_Plain.f (k : Nat) (a0 : ByteArray) : Option (Bool) := postriderref04_Plain.l0 k a0 0
theorem postriderref04_Plain.mono_l : ∀ k, (∀ y0 y1, LeO (postriderref04_Plain.l0 k y0 y1) (postriderref04_Plain.l0 (k + 1) y0 y1))
 | 0 => fun _ _ r h => by simp [postriderref04_Plain.l0] at h
 | k + 1 => by
  have ih0 := postriderref04_Plain.mono_l k
  ·intro y0 y1
   unfold postriderref04_Plain.l0
   repeat' first
   | (with_reducible first | exact ih0 _ _ | exact LeO.refl _ | exact LeO.none _ | refine LeO.ite ?_ ?_ | refine LeO.bind ?_ (fun _ => ?_))
theorem postriderref04_Plain.mono : ∀ a0 k, LeO (postriderref04_Plain.f k a0) (postriderref04_Plain.f (k + 1) a0) := by
 intro a0 k
 have ih0 := postriderref04_Plain.mono_l k
 unfold postriderref04_Plain.f
 repeat' first
   | (with_reducible first | exact ih0 _ _ | exact LeO.refl _ | exact LeO.none _ | refine LeO.ite ?_ ?_ | refine LeO.bind ?_ (fun _ => ?_))
theorem postriderref04_Plain.calls (k : Nat) (a0 : ByteArray) (r : Bool) (w : World) (h : postriderref04_Plain.f k a0 = some r) :
  Calls Tryz.prog 54 #[.string a0] w fun e w' => e = .returned (.bool r) ∧ Drawn0 w w' := by
 have H : (postriderref04_Plain.l0 k a0 0) = some r := h
 clear h
 have H' := Aside0.mk H
 clear H
 go_enter Tryz.func54, Tryz.ntmps54
 go_wp2
 go_loopg [3] k (fun kq v3 w' => ∃ (x3_1 : Int), v3 = .int .i64 x3_1 ∧ Aside0 (postriderref04_Plain.l0 kq a0 x3_1 = some r) ∧ Aside0 (kq ≤ k) ∧ Drawn0 w w')
 case atStart => exact ⟨(0), rs, H', ⟨Nat.le_refl _⟩, dr⟩
 case round =>
  clear H'
  obtain ⟨x3_1, rfl, HA, HK1, ⟨m1, rfl⟩⟩ := hrel
  cases gk with
  | zero => exact absurd HA.out (by simp [postriderref04_Plain.l0])
  | succ k1 =>
   have H := HA.out
   clear HA
   simp only [postriderref04_Plain.l0] at H
   by_cases c2 : x3_1 < (a0.size : Int)
   ·rw [if_pos c2] at H
    have c2b0 : decide (x3_1 < (a0.size : Int)) = true := decide_eq_true c2
    clear c2
    by_cases c3 : 0 ≤ x3_1
    rotate_left
    ·rw [if_neg c3] at H
     exact ab H
    rw [if_pos c3] at H
    have c3b0 : decide (0 ≤ x3_1) = true := decide_eq_true c3
    clear c3
    obtain ⟨t138, A50, H⟩ := Option.bind_eq_some_iff.mp H
    replace H : (if t138 = true then (postriderref04_Plain.l0 k1 a0 (wrap64 (x3_1 + 1))) else (some false)) = some r := H
    have A5 := Aside0.mk A50
    clear A50
    by_cases c6 : t138 = true
    ·subst c6
     replace H : (postriderref04_Plain.l0 k1 a0 (wrap64 (x3_1 + 1))) = some r := by rw [if_pos rfl] at H; exact H
     have H' := Aside0.mk H
     clear H
     have p4 : 0 ≤ (x3_1 : Int) := od
     have q4 : x3_1 < (a0.size : Int) := od
     have hx4 := bt_at a0 x3_1
     replace p4 := eq_true p4
     replace q4 := eq_true q4
     go_wp2_with (first | ((with_reducible refine gate_callee (f := 82) rfl ?_); refine goesL_ (some 13) rfl rfl Tryz.func82 kf rfl #[.int .u8 (bt a0 x3_1)] rfl ml ?_; (with_reducible refine (postriderref04_plain.calls (bt a0 x3_1) true _ A5.out).mono ?_); rintro e w' ⟨rfl, ⟨nd, rfl⟩⟩; refine ⟨_, rfl, ?_⟩))
     go_roundg k1
     case measure => have := HK1.out; omega
     case rel => exact ⟨(wrap64 (x3_1 + 1)), rs, H', ⟨by have := HK1.out; omega⟩, dr⟩
    ·replace c6 := Bool.eq_false_iff.mpr c6
     subst c6
     replace H : (some false) = some r := by rw [if_neg (show ¬ (false = true) by decide)] at H; exact H
     obtain rfl := Option.some.inj H
     have p4 : 0 ≤ (x3_1 : Int) := od
     have q4 : x3_1 < (a0.size : Int) := od
     have hx4 := bt_at a0 x3_1
     replace p4 := eq_true p4
     replace q4 := eq_true q4
     go_wp2_with (first | ((with_reducible refine gate_callee (f := 82) rfl ?_); refine goesL_ (some 13) rfl rfl Tryz.func82 kf rfl #[.int .u8 (bt a0 x3_1)] rfl ml ?_; (with_reducible refine (postriderref04_plain.calls (bt a0 x3_1) false _ A5.out).mono ?_); rintro e w' ⟨rfl, ⟨nd, rfl⟩⟩; refine ⟨_, rfl, ?_⟩))
     go_ret
     exact ⟨by first | rfl | (simp [bneNil]; done) | (simp; done) | (simp [*]; done), dr⟩
   ·rw [if_neg c2] at H
    have c2b0 : decide (x3_1 < (a0.size : Int)) = false := decide_eq_false c2
    clear c2
    obtain rfl := Option.some.inj H
    go_wp2
    go_ret
    exact ⟨by first | rfl | (simp [bneNil]; done) | (simp; done) | (simp [*]; done), dr⟩

/-! ### postriderref04_Split: function 105 -/
def postriderref04_Split.l0 : Nat → ByteArray → Int → List ByteArray → Int → Int → Option (List ByteArray)
 | 0, _, _, _, _, _ => none
 | k + 1, x0, x1, x5, x6, x7 => if x7 < (x0.size : Int) then (if 0 ≤ x7 then (if (bt x0 x7) = x1 then (if 0 ≤ x6 then (if x6 ≤ x7 then (if x7 ≤ (x0.size : Int) then (if x5.length < 8796093022208 then (postriderref04_Split.l0 k x0 x1 (x5 ++ [x0.extract (x6 : Int).toNat (x7 : Int).toNat]) (wrap64 (x7 + 1)) (wrap64 (x7 + 1))) else (none)) else (none)) else (none)) else (none)) else (postriderref04_Split.l0 k x0 x1 x5 x6 (wrap64 (x7 + 1)))) else (none)) else (if 0 ≤ x6 then (if x6 ≤ (x0.size : Int) then (if x5.length < 8796093022208 then (some (x5 ++ [x0.extract (x6 : Int).toNat x0.size])) else (none)) else (none)) else (none))
def postriderref04_Split.f (k : Nat) (a0 : ByteArray) (a1 : Int) : Option (List ByteArray) := postriderref04_Split.l0 k a0 a1 ([] : List ByteArray) 0 0
theorem postriderref04_Split.mono_l : ∀ k, (∀ y0 y1 y2 y3 y4, LeO (postriderref04_Split.l0 k y0 y1 y2 y3 y4) (postriderref04_Split.l0 (k + 1) y0 y1 y2 y3 y4))
 | 0 => fun _ _ _ _ _ r h => by simp [postriderref04_Split.l0] at h
 | k + 1 => by
  have ih0 := postriderref04_Split.mono_l k
  ·intro y0 y1 y2 y3 y4
   unfold postriderref04_Split.l0
   repeat' first
   | (with_reducible first | exact ih0 _ _ _ _ _ | exact LeO.refl _ | exact LeO.none _ | refine LeO.ite ?_ ?_ | refine LeO.bind ?_ (fun _ => ?_))
theorem postriderref04_Split.mono : ∀ a0 a1 k, LeO (postriderref04_Split.f k a0 a1) (postriderref04_Split.f (k + 1) a0 a1) := by
 intro a0 a1 k
 have ih0 := postriderref04_Split.mono_l k
 unfold postriderref04_Split.f
 repeat' first
   | (with_reducible first | exact ih0 _ _ _ _ _ | exact LeO.refl _ | exact LeO.none _ | refine LeO.ite ?_ ?_ | refine LeO.bind ?_ (fun _ => ?_))
theorem postriderref04_Split.calls (k : Nat) (a0 : ByteArray) (a1 : Int) (r : List ByteArray) (w : World) (h : postriderref04_Split.f k a0 a1 = some r) :
  Calls Tryz.prog 105 #[.string a0, .int .u8 a1] w fun e w' => ∃ v0_ : Value, e = .returned (v0_) ∧ Kd.R Kd.string 9 w' w.heap.size (fun _ => True) v0_ r ∧ Below w.heap.size w w' := by
 have HB := Aside0.mk (Below.refl w.heap.size w)
 have H : (postriderref04_Split.l0 k a0 a1 ([] : List ByteArray) 0 0) = some r := h
 clear h
 have H' := Aside0.mk H
 clear H
 go_enter Tryz.func105, Tryz.ntmps105
 go_wp2
 go_loopg [5, 6, 7] k (fun kq v5 v6 v7 w' => ∃ (x5_1 : List ByteArray) (x6_1 : Int) (x7_1 : Int), v6 = .int .i64 x6_1 ∧ v7 = .int .i64 x7_1 ∧ Aside0 (postriderref04_Split.l0 kq a0 a1 x5_1 x6_1 x7_1 = some r) ∧ Aside0 (kq ≤ k) ∧ Aside0 (Kd.R Kd.string 9 w' w.heap.size (fun _ => True) v5 x5_1) ∧ Aside0 (Below w.heap.size w w'))
 case atStart => exact ⟨(([] : List ByteArray)), (0), (0), rs, rs, H', ⟨Nat.le_refl _⟩, ⟨by first | exact Kd.R_nil _ _ _ _ _ | exact Kd.N_nil _ _ _ _ _ | exact Kd.V_nil _ _ _ _ _ | exact Kd.Q_nil _ _ _ _ _ | exact Kd.S_nil _ _ _ _ _⟩, ⟨bl⟩⟩
 case round =>
  clear H'
  try clear c1
  try clear p2
  obtain ⟨x5_1, x6_1, x7_1, rfl, rfl, HA, HK1, HO_5, HB⟩ := hrel
  cases gk with
  | zero => exact absurd HA.out (by simp [postriderref04_Split.l0])
  | succ k1 =>
   have H := HA.out
   clear HA
   simp only [postriderref04_Split.l0] at H
   by_cases c3 : x7_1 < (a0.size : Int)
   ·rw [if_pos c3] at H
    have c3b0 : decide (x7_1 < (a0.size : Int)) = true := decide_eq_true c3
    clear c3
    by_cases c4 : 0 ≤ x7_1
    rotate_left
    ·rw [if_neg c4] at H
     exact ab H
    rw [if_pos c4] at H
    have c4b0 : decide (0 ≤ x7_1) = true := decide_eq_true c4
    clear c4
    by_cases c6 : (bt a0 x7_1) = a1
    ·rw [if_pos c6] at H
     have c6b0 : ((bt a0 x7_1) == a1) = true := beq_iff_eq.mpr c6
     have c6b1 : ((bt a0 x7_1) != a1) = false := bne_eq_false_iff_eq.mpr c6
     clear c6
     by_cases c7 : 0 ≤ x6_1
     rotate_left
     ·rw [if_neg c7] at H
      exact ab H
     rw [if_pos c7] at H
     have c7b0 := eq_true c7
     have c7b1 : decide (0 ≤ x6_1) = true := decide_eq_true c7
     clear c7
     by_cases c8 : x6_1 ≤ x7_1
     rotate_left
     ·rw [if_neg c8] at H
      exact ab H
     rw [if_pos c8] at H
     have c8b0 := eq_true c8
     have c8b1 : decide (x6_1 ≤ x7_1) = true := decide_eq_true c8
     clear c8
     by_cases c9 : x7_1 ≤ (a0.size : Int)
     rotate_left
     ·rw [if_neg c9] at H
      exact ab H
     rw [if_pos c9] at H
     have c9b0 := eq_true c9
     have c9b1 : decide (x7_1 ≤ (a0.size : Int)) = true := decide_eq_true c9
     clear c9
     by_cases c10 : x5_1.length < 8796093022208
     rotate_left
     ·rw [if_neg c10] at H
      exact ab H
     rw [if_pos c10] at H
     have LMc10 := Aside0.mk c10
     clear c10
     obtain ⟨y139, hy139⟩ : ∃ y_ : List ByteArray, y_ = (x5_1 ++ [a0.extract (x6_1 : Int).toNat (x7_1 : Int).toNat]) := ⟨_, rfl⟩
     replace H : (postriderref04_Split.l0 k1 a0 a1 y139 (wrap64 (x7_1 + 1)) (wrap64 (x7_1 + 1))) = some r := by first | (rw [hy139]; with_reducible exact H) | (have H2_ := (Option.bind_some _ _).symm.trans H; rw [hy139]; with_reducible exact H2_) | (have H2_ := (Option.bind_some _ _).symm.trans H; with_reducible exact H2_) | with_reducible exact H | (rw [hy139]; exact H) | exact H
     have Ny139 := Aside0.mk hy139
     clear hy139
     have H' := Aside0.mk H
     clear H
     have p5 : 0 ≤ (x7_1 : Int) := od
     have q5 : x7_1 < (a0.size : Int) := od
     have hx5 := bt_at a0 x7_1
     replace p5 := eq_true p5
     replace q5 := eq_true q5
     go_wp2_with (first | ((with_reducible refine gate_builtin (b := .append) (xs := #[.tmp 19, .tmp 24]) rfl ?_); at_builtin; refine Kd.R_append Kd.string (w0 := w) w.heap.size rfl (.tmp 19) (.tmp 24) 22 9 (.string ⟨#[]⟩) 16 rfl Tryz.underlying22 info9 rfl (by decide) (by omega) u5 x5_1 (a0.extract (x6_1 : Int).toNat (x7_1 : Int).toNat) [.string (a0.extract (x6_1 : Int).toNat (x7_1 : Int).toNat)] (fun _ => True) (fun _ => False) rfl rfl ?aP (fun _ hk => hk.elim) ?aF ?aO ?aB ?aS ?aL ?_; (case aP => exact rfl); (case aB => exact bl); (case aF => exact (fun _ _ => trivial)); (case aO => exact (kr HO_5.out)); (case aS => exact (below_size bl)); (case aL => have := LMc10.out; omega); intro v140 w11 ho hb hg hat; rw [← Ny139.out] at ho; replace HB := Aside0.mk (hb); have HO141 := Aside0.mk (ho); clear HO_5 ho hb hg hat))
     go_roundg k1
     case measure => have := HK1.out; omega
     case rel => exact ⟨(y139), (wrap64 (x7_1 + 1)), (wrap64 (x7_1 + 1)), rs, rs, H', ⟨by have := HK1.out; omega⟩, ⟨kr HO141.out⟩, ⟨bl⟩⟩
    ·rw [if_neg c6] at H
     have c6b0 : ((bt a0 x7_1) == a1) = false := beq_eq_false_iff_ne.mpr c6
     have c6b1 : ((bt a0 x7_1) != a1) = true := bne_iff_ne.mpr c6
     have H' := Aside0.mk H
     clear H
     have p5 : 0 ≤ (x7_1 : Int) := od
     have q5 : x7_1 < (a0.size : Int) := od
     have hx5 := bt_at a0 x7_1
     replace p5 := eq_true p5
     replace q5 := eq_true q5
     go_wp2
     go_roundg k1
     case measure => have := HK1.out; omega
     case rel => exact ⟨(x5_1), (x6_1), (wrap64 (x7_1 + 1)), rs, rs, H', ⟨by have := HK1.out; omega⟩, ⟨kr HO_5.out⟩, ⟨bl⟩⟩
   ·rw [if_neg c3] at H
    have c3b0 : decide (x7_1 < (a0.size : Int)) = false := decide_eq_false c3
    clear c3
    by_cases c12 : 0 ≤ x6_1
    rotate_left
    ·rw [if_neg c12] at H
     exact ab H
    rw [if_pos c12] at H
    have c12b0 := eq_true c12
    have c12b1 : decide (0 ≤ x6_1) = true := decide_eq_true c12
    clear c12
    by_cases c13 : x6_1 ≤ (a0.size : Int)
    rotate_left
    ·rw [if_neg c13] at H
     exact ab H
    rw [if_pos c13] at H
    have c13b0 := eq_true c13
    have c13b1 : decide (x6_1 ≤ (a0.size : Int)) = true := decide_eq_true c13
    clear c13
    by_cases c14 : x5_1.length < 8796093022208
    rotate_left
    ·rw [if_neg c14] at H
     exact ab H
    rw [if_pos c14] at H
    have LMc14 := Aside0.mk c14
    clear c14
    obtain ⟨y142, hy142⟩ : ∃ y_ : List ByteArray, y_ = (x5_1 ++ [a0.extract (x6_1 : Int).toNat a0.size]) := ⟨_, rfl⟩
    replace H : (some y142) = some r := by first | (rw [hy142]; with_reducible exact H) | (have H2_ := (Option.bind_some _ _).symm.trans H; rw [hy142]; with_reducible exact H2_) | (have H2_ := (Option.bind_some _ _).symm.trans H; with_reducible exact H2_) | with_reducible exact H | (rw [hy142]; exact H) | exact H
    have Ny142 := Aside0.mk hy142
    clear hy142
    obtain rfl := Option.some.inj H
    go_wp2_with (first | ((with_reducible refine gate_builtin (b := .append) (xs := #[.tmp 28, .tmp 32]) rfl ?_); at_builtin; refine Kd.R_append Kd.string (w0 := w) w.heap.size rfl (.tmp 28) (.tmp 32) 22 9 (.string ⟨#[]⟩) 16 rfl Tryz.underlying22 info9 rfl (by decide) (by omega) u5 x5_1 (a0.extract (x6_1 : Int).toNat a0.size) [.string (a0.extract (x6_1 : Int).toNat a0.size)] (fun _ => True) (fun _ => False) rfl rfl ?aP (fun _ hk => hk.elim) ?aF ?aO ?aB ?aS ?aL ?_; (case aP => exact rfl); (case aB => exact bl); (case aF => exact (fun _ _ => trivial)); (case aO => exact (kr HO_5.out)); (case aS => exact (below_size bl)); (case aL => have := LMc14.out; omega); intro v143 w15 ho hb hg hat; rw [← Ny142.out] at ho; replace HB := Aside0.mk (hb); have HO144 := Aside0.mk (ho); clear HO_5 ho hb hg hat))
    go_ret
    exact ⟨_, by first | rfl | (simp [errW_none, errW_some] <;> rfl) | (simp [*, errW_none, errW_some] <;> rfl), kr HO144.out, bl⟩

end Go.Proofs.YtgelfnjicglmbaaGreatDoor.Q
end
section
namespace Go.Proofs.YtgelfnjicglmbaaGreatDoor.Q

/-! ### postriderref04_Number: function 106 -/
mutual
def postriderref04_Number.j0 : Nat → ByteArray → Int → Option (Int × Int)
 | 0, _, _ => none
 | k + 1, x0, x1 => if x1 > 15 then (postriderref04_Number.j1 k x0 15) else (postriderref04_Number.j1 k x0 x1)
def postriderref04_Number.j1 : Nat → ByteArray → Int → Option (Int × Int)
 | 0, _, _ => none
 | k + 1, x0, x1 => if (x0.size : Int) < 1 then (postriderref04_Number.j2 k x0 true) else (postriderref04_Number.j2 k x0 (decide ((x0.size : Int) > x1)))
def postriderref04_Number.j2 : Nat → ByteArray → Bool → Option (Int × Int)
 | 0, _, _ => none
 | k + 1, x0, x20 => if x20 = true then (some (0, 5)) else (postriderref04_Number.l0 k x0 0 0)
def postriderref04_Number.l0 : Nat → ByteArray → Int → Int → Option (Int × Int)
 | 0, _, _, _ => none
 | k + 1, x0, x6, x7 => if x7 < (x0.size : Int) then (if 0 ≤ x7 then (if (bt x0 x7) < 48 then (some (0, 5)) else (if (bt x0 x7) > 57 then (some (0, 5)) else (postriderref04_Number.l0 k x0 (wrap64 ((wrap64 (10 * x6)) + (((bt x0 x7) - 48) % 256))) (wrap64 (x7 + 1))))) else (none)) else (some (x6, 0))
end
def postriderref04_Number.f (k : Nat) (a0 : ByteArray) (a1 : Int) : Option (Int × Int) := if a1 < 1 then (postriderref04_Number.j0 k a0 1) else (postriderref04_Number.j0 k a0 a1)
theorem postriderref04_Number.mono_l : ∀ k, (∀ y0 y1, LeO (postriderref04_Number.j0 k y0 y1) (postriderref04_Number.j0 (k + 1) y0 y1)) ∧ (∀ y0 y1, LeO (postriderref04_Number.j1 k y0 y1) (postriderref04_Number.j1 (k + 1) y0 y1)) ∧ (∀ y0 y1, LeO (postriderref04_Number.j2 k y0 y1) (postriderref04_Number.j2 (k + 1) y0 y1)) ∧ (∀ y0 y1 y2, LeO (postriderref04_Number.l0 k y0 y1 y2) (postriderref04_Number.l0 (k + 1) y0 y1 y2))
 | 0 => ⟨fun _ _ r h => by simp [postriderref04_Number.j0] at h, fun _ _ r h => by simp [postriderref04_Number.j1] at h, fun _ _ r h => by simp [postriderref04_Number.j2] at h, fun _ _ _ r h => by simp [postriderref04_Number.l0] at h⟩
 | k + 1 => by
  obtain ⟨ih0, ih1, ih2, ih3⟩ := postriderref04_Number.mono_l k
  refine ⟨?_, ?_, ?_, ?_⟩
  ·intro y0 y1
   unfold postriderref04_Number.j0
   repeat' first
   | (with_reducible first | exact ih0 _ _ | exact ih1 _ _ | exact ih2 _ _ | exact ih3 _ _ _ | exact LeO.refl _ | exact LeO.none _ | refine LeO.ite ?_ ?_ | refine LeO.bind ?_ (fun _ => ?_))
  ·intro y0 y1
   unfold postriderref04_Number.j1
   repeat' first
   | (with_reducible first | exact ih0 _ _ | exact ih1 _ _ | exact ih2 _ _ | exact ih3 _ _ _ | exact LeO.refl _ | exact LeO.none _ | refine LeO.ite ?_ ?_ | refine LeO.bind ?_ (fun _ => ?_))
  ·intro y0 y1
   unfold postriderref04_Number.j2
   repeat' first
   | (with_reducible first | exact ih0 _ _ | exact ih1 _ _ | exact ih2 _ _ | exact ih3 _ _ _ | exact LeO.refl _ | exact LeO.none _ | refine LeO.ite ?_ ?_ | refine LeO.bind ?_ (fun _ => ?_))
  ·intro y0 y1 y2
   unfold postriderref04_Number.l0
   repeat' first
   | (with_reducible first | exact ih0 _ _ | exact ih1 _ _ | exact ih2 _ _ | exact ih3 _ _ _ | exact LeO.refl _ | exact LeO.none _ | refine LeO.ite ?_ ?_ | refine LeO.bind ?_ (fun _ => ?_))
theorem postriderref04_Number.mono : ∀ a0 a1 k, LeO (postriderref04_Number.f k a0 a1) (postriderref04_Number.f (k + 1) a0 a1) := by
 intro a0 a1 k
 obtain ⟨ih0, ih1, ih2, ih3⟩ := postriderref04_Number.mono_l k
 unfold postriderref04_Number.f
 repeat' first
   | (with_reducible first | exact ih0 _ _ | exact ih1 _ _ | exact ih2 _ _ | exact ih3 _ _ _ | exact LeO.refl _ | exact LeO.none _ | refine LeO.ite ?_ ?_ | refine LeO.bind ?_ (fun _ => ?_))
theorem postriderref04_Number.calls (k : Nat) (a0 : ByteArray) (a1 : Int) (r1 : Int) (r2 : Int) (w : World) (h : postriderref04_Number.f k a0 a1 = some (r1, r2)) :
  Calls Tryz.prog 106 #[.string a0, .int .i64 a1] w fun e w' => e = .returned (.tuple #[.int .i64 r1, .int .i64 r2]) ∧ Drawn0 w w' := by
 have H : (if a1 < 1 then (postriderref04_Number.j0 k a0 1) else (postriderref04_Number.j0 k a0 a1)) = some (r1, r2) := h
 clear h
 have HC3 := Aside0.mk H
 clear H
 go_enter Tryz.func106, Tryz.ntmps106
 go_upto_if 9 with (fail)
 go_cut [1] (fun v1 wc => ∃ (kq : Nat) (x1_2 : Int), v1 = .int .i64 x1_2 ∧ Aside0 (postriderref04_Number.j0 kq a0 x1_2 = some (r1, r2)) ∧ Aside0 (kq ≤ k) ∧ Drawn0 w wc)
 case first =>
  have H := HC3.out
  clear HC3
  by_cases c4 : a1 < 1
  ·rw [if_pos c4] at H
   have c4b0 : decide (a1 < 1) = true := decide_eq_true c4
   clear c4
   (first | rw [c4b0] | (simp only [i64_w, i32_w]; rw [c4b0]) | skip)
   have H' := Aside0.mk H
   clear H
   go_wp2
   go_meet
   case rel => exact ⟨_, (1), rs, H', ⟨by first | omega | exact Nat.le_refl _⟩, dr⟩
  ·rw [if_neg c4] at H
   have c4b0 : decide (a1 < 1) = false := decide_eq_false c4
   clear c4
   (first | rw [c4b0] | (simp only [i64_w, i32_w]; rw [c4b0]) | skip)
   have H' := Aside0.mk H
   clear H
   go_wp2
   go_meet
   case rel => exact ⟨_, (a1), rs, H', ⟨by first | omega | exact Nat.le_refl _⟩, dr⟩
 case rest =>
  clear HC3
  try clear c1
  try clear p2
  try clear c4
  try clear c4b0
  obtain ⟨kq, x1_2, rfl, HA, HJ2, ⟨mc2, rfl⟩⟩ := hcut
  cases kq with
  | zero => exact absurd HA.out (by simp [postriderref04_Number.j0])
  | succ kj2 =>
   have H := HA.out
   clear HA
   simp only [postriderref04_Number.j0] at H
   have HC5 := Aside0.mk H
   clear H
   go_upto_if 11 with (fail)
   go_cut [1] (fun v1 wc => ∃ (kq : Nat) (x1_4 : Int), v1 = .int .i64 x1_4 ∧ Aside0 (postriderref04_Number.j1 kq a0 x1_4 = some (r1, r2)) ∧ Aside0 (kq ≤ kj2) ∧ Drawn0 w wc)
   case first =>
    have H := HC5.out
    clear HC5
    by_cases c6 : x1_2 > 15
    ·rw [if_pos c6] at H
     have c6b0 : decide (15 < x1_2) = true := decide_eq_true c6
     clear c6
     (first | rw [c6b0] | (simp only [i64_w, i32_w]; rw [c6b0]) | skip)
     have H' := Aside0.mk H
     clear H
     go_wp2
     go_meet
     case rel => exact ⟨_, (15), rs, H', ⟨by have := HJ2.out; first | omega | exact Nat.le_refl _⟩, dr⟩
    ·rw [if_neg c6] at H
     have c6b0 : decide (15 < x1_2) = false := decide_eq_false c6
     clear c6
     (first | rw [c6b0] | (simp only [i64_w, i32_w]; rw [c6b0]) | skip)
     have H' := Aside0.mk H
     clear H
     go_wp2
     go_meet
     case rel => exact ⟨_, (x1_2), rs, H', ⟨by have := HJ2.out; first | omega | exact Nat.le_refl _⟩, dr⟩
   case rest =>
    clear HC5
    try clear c1
    try clear c2
    try clear p2
    try clear c4
    try clear c4b0
    try clear c6
    try clear c6b0
    try clear p2
    obtain ⟨kq, x1_4, rfl, HA, HJ4, ⟨mc4, rfl⟩⟩ := hcut
    cases kq with
    | zero => exact absurd HA.out (by simp [postriderref04_Number.j1])
    | succ kj4 =>
     have H := HA.out
     clear HA
     simp only [postriderref04_Number.j1] at H
     have HC7 := Aside0.mk H
     clear H
     go_upto_region 5 with (fail)
     go_cut [20] (fun v20 wc => ∃ (kq : Nat) (x20_6 : Bool), v20 = .bool x20_6 ∧ Aside0 (postriderref04_Number.j2 kq a0 x20_6 = some (r1, r2)) ∧ Aside0 (kq ≤ kj4) ∧ Drawn0 w wc)
     case first =>
      have H := HC7.out
      clear HC7
      by_cases c8 : (a0.size : Int) < 1
      ·rw [if_pos c8] at H
       have c8b0 : decide ((a0.size : Int) < 1) = true := decide_eq_true c8
       have c8b1 : decide (a0.size < 1) = true := decide_eq_true (by omega)
       clear c8
       (first | rw [c8b0] | (simp only [i64_w, i32_w]; rw [c8b0]) | skip)
       have H' := Aside0.mk H
       clear H
       go_wp2
       go_meet
       case rel => exact ⟨_, (true), rs, H', ⟨by have := HJ2.out; have := HJ4.out; first | omega | exact Nat.le_refl _⟩, dr⟩
      ·rw [if_neg c8] at H
       have c8b0 : decide ((a0.size : Int) < 1) = false := decide_eq_false c8
       have c8b1 : decide (a0.size < 1) = false := decide_eq_false (by omega)
       clear c8
       (first | rw [c8b0] | (simp only [i64_w, i32_w]; rw [c8b0]) | skip)
       have H' := Aside0.mk H
       clear H
       go_wp2
       go_meet
       case rel => exact ⟨_, (decide ((a0.size : Int) > x1_4)), rs, H', ⟨by have := HJ2.out; have := HJ4.out; first | omega | exact Nat.le_refl _⟩, dr⟩
     case rest =>
      clear HC7
      try clear c1
      try clear c2
      try clear p2
      try clear c4
      try clear c4b0
      try clear c6
      try clear c6b0
      try clear c8
      try clear c8b0
      try clear c8b1
      try clear p2
      obtain ⟨kq, x20_6, rfl, HA, HJ6, ⟨mc6, rfl⟩⟩ := hcut
      cases kq with
      | zero => exact absurd HA.out (by simp [postriderref04_Number.j2])
      | succ kj6 =>
       have H := HA.out
       clear HA
       simp only [postriderref04_Number.j2] at H
       by_cases c9 : x20_6 = true
       ·subst c9
        replace H : (some (0, 5)) = some (r1, r2) := by rw [if_pos rfl] at H; exact H
        simp only [Option.some.injEq, Prod.mk.injEq] at H
        obtain ⟨rfl, rfl⟩ := H
        go_wp2
        go_ret2
        exact ⟨by first | rfl | (simp [bneNil]; done) | (simp; done) | (simp [*]; done), dr⟩
       ·replace c9 := Bool.eq_false_iff.mpr c9
        subst c9
        replace H : (postriderref04_Number.l0 kj6 a0 0 0) = some (r1, r2) := by rw [if_neg (show ¬ (false = true) by decide)] at H; exact H
        have H' := Aside0.mk H
        clear H
        go_wp2
        go_loopg [6, 7] kj6 (fun kq v6 v7 w' => ∃ (x6_4 : Int) (x7_4 : Int), v6 = .int .i64 x6_4 ∧ v7 = .int .i64 x7_4 ∧ Aside0 (postriderref04_Number.l0 kq a0 x6_4 x7_4 = some (r1, r2)) ∧ Aside0 (kq ≤ kj6) ∧ Drawn0 w w')
        case atStart => exact ⟨(0), (0), rs, rs, H', ⟨Nat.le_refl _⟩, dr⟩
        case round =>
         clear H'
         try clear c1
         try clear c2
         try clear p2
         try clear c4
         try clear c4b0
         try clear c6
         try clear c6b0
         try clear c8
         try clear c8b0
         try clear c8b1
         try clear c9
         try clear p2
         obtain ⟨x6_4, x7_4, rfl, rfl, HA, HK4, ⟨m4, rfl⟩⟩ := hrel
         cases gk with
         | zero => exact absurd HA.out (by simp [postriderref04_Number.l0])
         | succ k4 =>
          have H := HA.out
          clear HA
          simp only [postriderref04_Number.l0] at H
          by_cases c10 : x7_4 < (a0.size : Int)
          ·rw [if_pos c10] at H
           have c10b0 : decide (x7_4 < (a0.size : Int)) = true := decide_eq_true c10
           clear c10
           by_cases c11 : 0 ≤ x7_4
           rotate_left
           ·rw [if_neg c11] at H
            exact ab H
           rw [if_pos c11] at H
           have c11b0 : decide (0 ≤ x7_4) = true := decide_eq_true c11
           clear c11
           by_cases c13 : (bt a0 x7_4) < 48
           ·rw [if_pos c13] at H
            have c13b0 : decide ((bt a0 x7_4) < 48) = true := decide_eq_true c13
            clear c13
            simp only [Option.some.injEq, Prod.mk.injEq] at H
            obtain ⟨rfl, rfl⟩ := H
            have p12 : 0 ≤ (x7_4 : Int) := od
            have q12 : x7_4 < (a0.size : Int) := od
            have hx12 := bt_at a0 x7_4
            replace p12 := eq_true p12
            replace q12 := eq_true q12
            go_wp2
            go_ret2
            exact ⟨by first | rfl | (simp [bneNil]; done) | (simp; done) | (simp [*]; done), dr⟩
           ·rw [if_neg c13] at H
            have c13b0 : decide ((bt a0 x7_4) < 48) = false := decide_eq_false c13
            clear c13
            by_cases c15 : (bt a0 x7_4) > 57
            ·rw [if_pos c15] at H
             have c15b0 : decide (57 < (bt a0 x7_4)) = true := decide_eq_true c15
             clear c15
             simp only [Option.some.injEq, Prod.mk.injEq] at H
             obtain ⟨rfl, rfl⟩ := H
             have p12 : 0 ≤ (x7_4 : Int) := od
             have q12 : x7_4 < (a0.size : Int) := od
             have hx12 := bt_at a0 x7_4
             replace p12 := eq_true p12
             replace q12 := eq_true q12
             have p14 : 0 ≤ (x7_4 : Int) := od
             have q14 : x7_4 < (a0.size : Int) := od
             have hx14 := bt_at a0 x7_4
             replace p14 := eq_true p14
             replace q14 := eq_true q14
             go_wp2
             go_ret2
             exact ⟨by first | rfl | (simp [bneNil]; done) | (simp; done) | (simp [*]; done), dr⟩
            ·rw [if_neg c15] at H
             have c15b0 : decide (57 < (bt a0 x7_4)) = false := decide_eq_false c15
             clear c15
             have H' := Aside0.mk H
             clear H
             have p12 : 0 ≤ (x7_4 : Int) := od
             have q12 : x7_4 < (a0.size : Int) := od
             have hx12 := bt_at a0 x7_4
             replace p12 := eq_true p12
             replace q12 := eq_true q12
             have p14 : 0 ≤ (x7_4 : Int) := od
             have q14 : x7_4 < (a0.size : Int) := od
             have hx14 := bt_at a0 x7_4
             replace p14 := eq_true p14
             replace q14 := eq_true q14
             have p16 : 0 ≤ (x7_4 : Int) := od
             have q16 : x7_4 < (a0.size : Int) := od
             have hx16 := bt_at a0 x7_4
             replace p16 := eq_true p16
             replace q16 := eq_true q16
             go_wp2
             go_roundg k4
             case measure => have := HJ2.out; have := HJ4.out; have := HJ6.out; have := HK4.out; omega
             case rel => exact ⟨(wrap64 ((wrap64 (10 * x6_4)) + (((bt a0 x7_4) - 48) % 256))), (wrap64 (x7_4 + 1)), rs, rs, H', ⟨by have := HJ2.out; have := HJ4.out; have := HJ6.out; have := HK4.out; omega⟩, dr⟩
          ·rw [if_neg c10] at H
           have c10b0 : decide (x7_4 < (a0.size : Int)) = false := decide_eq_false c10
           clear c10
           simp only [Option.some.injEq, Prod.mk.injEq] at H
           obtain ⟨rfl, rfl⟩ := H
           go_wp2
           go_ret2
           exact ⟨by first | rfl | (simp [bneNil]; done) | (simp; done) | (simp [*]; done), dr⟩

/-! ### postriderref05_literal: function 83 -/
mutual
def postriderref05_literal.j0 : Nat → ByteArray → Bool → Option (Bool)
 | 0, _, _ => none
 | k + 1, x0, x22 => if x22 = true then (some false) else (if 1 ≤ (wrap64 ((x0.size : Int) - 1)) then (if (wrap64 ((x0.size : Int) - 1)) ≤ (x0.size : Int) then ((postriderref04_Split.f k (x0.extract 1 ((wrap64 ((x0.size : Int) - 1)) : Int).toNat) 46).bind fun t145 => (if (t145.length : Int) = 4 then (postriderref05_literal.l0 k t145 0) else (some false))) else (none)) else (none))
def postriderref05_literal.l0 : Nat → List ByteArray → Int → Option (Bool)
 | 0, _, _ => none
 | k + 1, x3, x4 => if x4 < 4 then (if 0 ≤ x4 then (if x4 < (x3.length : Int) then ((postriderref04_Number.f k (rdOf ByteArray.empty x3 x4) 3).bind fun bt149 => (if bt149.2 = 0 then (if bt149.1 > 255 then (some false) else (if ((rdOf ByteArray.empty x3 x4).size : Int) > 1 then (if 0 < ((rdOf ByteArray.empty x3 x4).size : Int) then (if (bt (rdOf ByteArray.empty x3 x4) 0) = 48 then (some false) else (postriderref05_literal.l0 k x3 (wrap64 (x4 + 1)))) else (none)) else (postriderref05_literal.l0 k x3 (wrap64 (x4 + 1))))) else (some false))) else (none)) else (none)) else (some true)
end
def postriderref05_literal.f (k : Nat) (a0 : ByteArray) : Option (Bool) := if (a0.size : Int) < 2 then (postriderref05_literal.j0 k a0 true) else (if 0 < (a0.size : Int) then (if (bt a0 0) = 91 then (if 0 ≤ (wrap64 ((a0.size : Int) - 1)) then (if (wrap64 ((a0.size : Int) - 1)) < (a0.size : Int) then (postriderref05_literal.j0 k a0 ((bt a0 (wrap64 ((a0.size : Int) - 1))) != 93)) else (none)) else (none)) else (postriderref05_literal.j0 k a0 true)) else (none))
theorem postriderref05_literal.mono_l : ∀ k, (∀ y0 y1, LeO (postriderref05_literal.j0 k y0 y1) (postriderref05_literal.j0 (k + 1) y0 y1)) ∧ (∀ y0 y1, LeO (postriderref05_literal.l0 k y0 y1) (postriderref05_literal.l0 (k + 1) y0 y1))
 | 0 => ⟨fun _ _ r h => by simp [postriderref05_literal.j0] at h, fun _ _ r h => by simp [postriderref05_literal.l0] at h⟩
 | k + 1 => by
  obtain ⟨ih0, ih1⟩ := postriderref05_literal.mono_l k
  refine ⟨?_, ?_⟩
  ·intro y0 y1
   unfold postriderref05_literal.j0
   repeat' first
   | (with_reducible first | exact ih0 _ _ | exact ih1 _ _ | exact postriderref04_Number.mono _ _ _ | exact postriderref04_Split.mono _ _ _ | exact LeO.refl _ | exact LeO.none _ | refine LeO.ite ?_ ?_ | refine LeO.bind ?_ (fun _ => ?_))
  ·intro y0 y1
   unfold postriderref05_literal.l0
   repeat' first
   | (with_reducible first | exact ih0 _ _ | exact ih1 _ _ | exact postriderref04_Number.mono _ _ _ | exact postriderref04_Split.mono _ _ _ | exact LeO.refl _ | exact LeO.none _ | refine LeO.ite ?_ ?_ | refine LeO.bind ?_ (fun _ => ?_))
theorem postriderref05_literal.mono : ∀ a0 k, LeO (postriderref05_literal.f k a0) (postriderref05_literal.f (k + 1) a0) := by
 intro a0 k
 obtain ⟨ih0, ih1⟩ := postriderref05_literal.mono_l k
 unfold postriderref05_literal.f
 repeat' first
   | (with_reducible first | exact ih0 _ _ | exact ih1 _ _ | exact postriderref04_Number.mono _ _ _ | exact postriderref04_Split.mono _ _ _ | exact LeO.refl _ | exact LeO.none _ | refine LeO.ite ?_ ?_ | refine LeO.bind ?_ (fun _ => ?_))
theorem postriderref05_literal.calls (k : Nat) (a0 : ByteArray) (r : Bool) (w : World) (h : postriderref05_literal.f k a0 = some r) :
  Calls Tryz.prog 83 #[.string a0] w fun e w' => e = .returned (.bool r) ∧ Below w.heap.size w w' := by
 have HB := Aside0.mk (Below.refl w.heap.size w)
 have H : (if (a0.size : Int) < 2 then (postriderref05_literal.j0 k a0 true) else (if 0 < (a0.size : Int) then (if (bt a0 0) = 91 then (if 0 ≤ (wrap64 ((a0.size : Int) - 1)) then (if (wrap64 ((a0.size : Int) - 1)) < (a0.size : Int) then (postriderref05_literal.j0 k a0 ((bt a0 (wrap64 ((a0.size : Int) - 1))) != 93)) else (none)) else (none)) else (postriderref05_literal.j0 k a0 true)) else (none))) = some r := h
 clear h
 have HC2 := Aside0.mk H
 clear H
 go_enter Tryz.func83, Tryz.ntmps83
 go_upto_region 1 with (fail)
 go_cut [22] (fun v22 wc => ∃ (kq : Nat) (x22_1 : Bool), v22 = .bool x22_1 ∧ Aside0 (postriderref05_literal.j0 kq a0 x22_1 = some r) ∧ Aside0 (kq ≤ k) ∧ Aside0 (Below w.heap.size w wc))
 case first =>
  have H := HC2.out
  clear HC2
  by_cases c3 : (a0.size : Int) < 2
  ·rw [if_pos c3] at H
   have c3b0 : decide ((a0.size : Int) < 2) = true := decide_eq_true c3
   have c3b1 : decide (a0.size < 2) = true := decide_eq_true (by omega)
   clear c3
   (first | rw [c3b0] | (simp only [i64_w, i32_w]; rw [c3b0]) | skip)
   have H' := Aside0.mk H
   clear H
   go_wp2
   go_meet
   case rel => exact ⟨_, (true), rs, H', ⟨by first | omega | exact Nat.le_refl _⟩, ⟨bl⟩⟩
  ·rw [if_neg c3] at H
   have c3b0 : decide ((a0.size : Int) < 2) = false := decide_eq_false c3
   have c3b1 : decide (a0.size < 2) = false := decide_eq_false (by omega)
   clear c3
   (first | rw [c3b0] | (simp only [i64_w, i32_w]; rw [c3b0]) | skip)
   by_cases c4 : 0 < (a0.size : Int)
   rotate_left
   ·rw [if_neg c4] at H
    exact ab H
   rw [if_pos c4] at H
   have c4b0 : decide (0 < (a0.size : Int)) = true := decide_eq_true c4
   have c4b1 : decide (0 < a0.size) = true := decide_eq_true (by omega)
   clear c4
   by_cases c6 : (bt a0 0) = 91
   ·rw [if_pos c6] at H
    have c6b0 : ((bt a0 0) == 91) = true := beq_iff_eq.mpr c6
    have c6b1 : ((bt a0 0) != 91) = false := bne_eq_false_iff_eq.mpr c6
    clear c6
    obtain ⟨ji7, hji7⟩ : ∃ j_ : Int, (wrap64 ((a0.size : Int) - 1)) = j_ := ⟨_, rfl⟩
    replace H : (if 0 ≤ (ji7) then (if (ji7) < (a0.size : Int) then (postriderref05_literal.j0 k a0 ((bt a0 (ji7)) != 93)) else (none)) else (none)) = some r := by first | (rw [hji7] at H; exact H) | (simp only [hji7] at H ⊢; exact H)
    have hji7w : (IntKind.i64.wrap ((a0.size : Int) - 1)) = ji7 := (i64_w _).trans hji7
    by_cases c8 : 0 ≤ (ji7)
    rotate_left
    ·rw [if_neg c8] at H
     exact ab H
    rw [if_pos c8] at H
    have c8b0 : decide (0 ≤ (ji7)) = true := decide_eq_true c8
    clear c8
    by_cases c9 : (ji7) < (a0.size : Int)
    rotate_left
    ·rw [if_neg c9] at H
     exact ab H
    rw [if_pos c9] at H
    have c9b0 : decide ((ji7) < (a0.size : Int)) = true := decide_eq_true c9
    clear c9
    have H' := Aside0.mk H
    clear H
    have p5 : 0 ≤ (0 : Int) := (by omega)
    have q5 : 0 < a0.size := (by have : (0 : Int) < (a0.size : Int) := od; omega)
    have hx5 : ∀ h : 0 < a0.size, ((a0[0]'h).toNat : Int) = bt a0 0 := bt_at a0 0
    clear p5
    have qi5 : (0 < (a0.size : Int)) = True := eq_true (od)
    replace q5 := eq_true q5
    have p10 : 0 ≤ ((ji7) : Int) := od
    have q10 : (ji7) < (a0.size : Int) := od
    have hx10 := bt_at a0 (ji7)
    replace p10 := eq_true p10
    replace q10 := eq_true q10
    go_wp2
    go_meet
    case rel => exact ⟨_, (((bt a0 (ji7)) != 93)), (by first | rfl | (simp; done) | (simp only [← hji7] <;> (first | rfl | simp)) | (simp [*]; done)), H', ⟨by first | omega | exact Nat.le_refl _⟩, ⟨bl⟩⟩
   ·rw [if_neg c6] at H
    have c6b0 : ((bt a0 0) == 91) = false := beq_eq_false_iff_ne.mpr c6
    have c6b1 : ((bt a0 0) != 91) = true := bne_iff_ne.mpr c6
    have H' := Aside0.mk H
    clear H
    have p5 : 0 ≤ (0 : Int) := (by omega)
    have q5 : 0 < a0.size := (by have : (0 : Int) < (a0.size : Int) := od; omega)
    have hx5 : ∀ h : 0 < a0.size, ((a0[0]'h).toNat : Int) = bt a0 0 := bt_at a0 0
    clear p5
    have qi5 : (0 < (a0.size : Int)) = True := eq_true (od)
    replace q5 := eq_true q5
    go_wp2
    go_meet
    case rel => exact ⟨_, (true), rs, H', ⟨by first | omega | exact Nat.le_refl _⟩, ⟨bl⟩⟩
 case rest =>
  clear HC2
  try clear p1
  try clear q1
  try clear hx1
  try clear p2
  try clear c3
  try clear c3b0
  try clear c3b1
  try clear c4
  try clear c4b0
  try clear c4b1
  try clear p5
  try clear q5
  try clear hx5
  try clear qi5
  try clear c6
  try clear c6b0
  try clear c6b1
  try clear p6
  try clear c8
  try clear c8b0
  try clear c9
  try clear c9b0
  try clear p10
  try clear q10
  try clear hx10
  try clear p10
  try clear p5
  try clear q10
  try clear q5
  obtain ⟨kq, x22_1, rfl, HA, HJ1, HB⟩ := hcut
  cases kq with
  | zero => exact absurd HA.out (by simp [postriderref05_literal.j0])
  | succ kj1 =>
   have H := HA.out
   clear HA
   simp only [postriderref05_literal.j0] at H
   by_cases c11 : x22_1 = true
   ·subst c11
    replace H : (some false) = some r := by rw [if_pos rfl] at H; exact H
    obtain rfl := Option.some.inj H
    go_wp2
    go_ret
    exact ⟨rf, bl⟩
   ·replace c11 := Bool.eq_false_iff.mpr c11
    subst c11
    replace H : (if 1 ≤ (wrap64 ((a0.size : Int) - 1)) then (if (wrap64 ((a0.size : Int) - 1)) ≤ (a0.size : Int) then ((postriderref04_Split.f kj1 (a0.extract 1 ((wrap64 ((a0.size : Int) - 1)) : Int).toNat) 46).bind fun t145 => (if (t145.length : Int) = 4 then (postriderref05_literal.l0 kj1 t145 0) else (some false))) else (none)) else (none)) = some r := by rw [if_neg (show ¬ (false = true) by decide)] at H; exact H
    by_cases c12 : 1 ≤ (wrap64 ((a0.size : Int) - 1))
    rotate_left
    ·rw [if_neg c12] at H
     exact ab H
    rw [if_pos c12] at H
    have c12b0 := eq_true c12
    have c12b1 : decide (1 ≤ (wrap64 ((a0.size : Int) - 1))) = true := decide_eq_true c12
    clear c12
    by_cases c13 : (wrap64 ((a0.size : Int) - 1)) ≤ (a0.size : Int)
    rotate_left
    ·rw [if_neg c13] at H
     exact ab H
    rw [if_pos c13] at H
    have c13b0 := eq_true c13
    have c13b1 : decide ((wrap64 ((a0.size : Int) - 1)) ≤ (a0.size : Int)) = true := decide_eq_true c13
    clear c13
    obtain ⟨t145, A140, H⟩ := Option.bind_eq_some_iff.mp H
    replace H : (if (t145.length : Int) = 4 then (postriderref05_literal.l0 kj1 t145 0) else (some false)) = some r := H
    have A14 := Aside0.mk A140
    clear A140
    by_cases c15 : (t145.length : Int) = 4
    ·rw [if_pos c15] at H
     have c15b0 : ((t145.length : Int) == 4) = true := beq_iff_eq.mpr c15
     have c15b1 : ((t145.length : Int) != 4) = false := bne_eq_false_iff_eq.mpr c15
     clear c15
     have H' := Aside0.mk H
     clear H
     go_wp2_with (first | ((with_reducible refine gate_callee (f := 105) rfl ?_); refine goesL_ (some 28) rfl rfl Tryz.func105 kf rfl #[.string (a0.extract 1 ((wrap64 ((a0.size : Int) - 1)) : Int).toNat), .int .u8 46] rfl ml ?_; (with_reducible refine (postriderref04_Split.calls kj1 (a0.extract 1 ((wrap64 ((a0.size : Int) - 1)) : Int).toNat) 46 t145 _ A14.out).mono ?_); rintro e w16 ⟨v146, rfl, ho0, hb⟩; refine ⟨_, rfl, ?_⟩; have HO147 := Aside0.mk (Kd.R_lower ho0 (below_size bl)); replace HB := Aside0.mk (below_step bl hb); (try clear hb); (try clear hb2); (try clear hk); (try clear hi); (try clear ho0); obtain ⟨Ao17, co17, eo17⟩ := Kd.R_slice HO147.out; subst eo17))
     go_loopg [4] kj1 (fun kq v4 w' => ∃ (x4_2 : Int), v4 = .int .i64 x4_2 ∧ Aside0 (postriderref05_literal.l0 kq t145 x4_2 = some r) ∧ Aside0 (kq ≤ kj1) ∧ Aside0 (Kd.R Kd.string 9 w' w.heap.size (fun _ => True) (.slice Ao17 t145.length co17) t145) ∧ Aside0 (Below w.heap.size w w'))
     case atStart => exact ⟨(0), rs, H', ⟨Nat.le_refl _⟩, ⟨kr HO147.out⟩, ⟨bl⟩⟩
     case round =>
      clear H'
      try clear c1
      try clear p1
      try clear q1
      try clear hx1
      try clear p2
      try clear c3
      try clear c3b0
      try clear c3b1
      try clear c4
      try clear c4b0
      try clear c4b1
      try clear p5
      try clear q5
      try clear hx5
      try clear qi5
      try clear c6
      try clear c6b0
      try clear c6b1
      try clear p6
      try clear c8
      try clear c8b0
      try clear c9
      try clear c9b0
      try clear c10
      try clear p10
      try clear q10
      try clear hx10
      try clear c11
      try clear c12
      try clear c12b0
      try clear c12b1
      try clear c13
      try clear c13b0
      try clear c13b1
      try clear c15
      try clear c15b0
      try clear c15b1
      try clear p1
      try clear p10
      try clear p2
      try clear p5
      try clear p6
      try clear q1
      try clear q10
      try clear q5
      obtain ⟨x4_2, rfl, HA, HK2, HO_3, HB⟩ := hrel
      cases gk with
      | zero => exact absurd HA.out (by simp [postriderref05_literal.l0])
      | succ k2 =>
       have H := HA.out
       clear HA
       simp only [postriderref05_literal.l0] at H
       by_cases c18 : x4_2 < 4
       ·rw [if_pos c18] at H
        have c18b0 : decide (x4_2 < 4) = true := decide_eq_true c18
        clear c18
        by_cases c19 : 0 ≤ x4_2
        rotate_left
        ·rw [if_neg c19] at H
         exact ab H
        rw [if_pos c19] at H
        have c19b0 : decide (0 ≤ x4_2) = true := decide_eq_true c19
        clear c19
        by_cases c20 : x4_2 < (t145.length : Int)
        rotate_left
        ·rw [if_neg c20] at H
         exact ab H
        rw [if_pos c20] at H
        have c20b0 : decide (x4_2 < (t145.length : Int)) = true := decide_eq_true c20
        clear c20
        obtain ⟨⟨t149, t150⟩, A210, H⟩ := Option.bind_eq_some_iff.mp H
        replace H : (if t150 = 0 then (if t149 > 255 then (some false) else (if ((rdOf ByteArray.empty t145 x4_2).size : Int) > 1 then (if 0 < ((rdOf ByteArray.empty t145 x4_2).size : Int) then (if (bt (rdOf ByteArray.empty t145 x4_2) 0) = 48 then (some false) else (postriderref05_literal.l0 k2 t145 (wrap64 (x4_2 + 1)))) else (none)) else (postriderref05_literal.l0 k2 t145 (wrap64 (x4_2 + 1))))) else (some false)) = some r := H
        have A21 := Aside0.mk A210
        clear A210
        by_cases c22 : t150 = 0
        ·rw [if_pos c22] at H
         have c22b0 : (t150 == 0) = true := beq_iff_eq.mpr c22
         have c22b1 : (t150 != 0) = false := bne_eq_false_iff_eq.mpr c22
         clear c22
         by_cases c23 : t149 > 255
         ·rw [if_pos c23] at H
          have c23b0 : decide (255 < t149) = true := decide_eq_true c23
          clear c23
          obtain rfl := Option.some.inj H
          have p148 : 0 ≤ (x4_2 : Int) := od
          have q148 : x4_2 < (t145.length : Int) := od
          obtain ⟨ad148, e148, hx148_0⟩ := Kd.at_string (Kd.R_reads' HO_3.out).2.2 x4_2 p148 q148
          cases e148
          replace p148 := eq_true p148
          replace q148 := eq_true q148
          go_wp2_with (first | ((with_reducible refine gate_callee (f := 106) rfl ?_); refine goesL_ (some 41) rfl rfl Tryz.func106 kf rfl #[.string (rdOf ByteArray.empty t145 x4_2), .int .i64 3] rfl ml ?_; (with_reducible refine (postriderref04_Number.calls k2 (rdOf ByteArray.empty t145 x4_2) 3 t149 t150 _ A21.out).mono ?_); rintro e w' ⟨rfl, ⟨nd, rfl⟩⟩; refine ⟨_, rfl, ?_⟩))
          go_ret
          exact ⟨rf, bl⟩
         ·rw [if_neg c23] at H
          have c23b0 : decide (255 < t149) = false := decide_eq_false c23
          clear c23
          by_cases c24 : ((rdOf ByteArray.empty t145 x4_2).size : Int) > 1
          ·rw [if_pos c24] at H
           have c24b0 : decide (1 < ((rdOf ByteArray.empty t145 x4_2).size : Int)) = true := decide_eq_true c24
           have c24b1 : decide (1 < (rdOf ByteArray.empty t145 x4_2).size) = true := decide_eq_true (by omega)
           clear c24
           by_cases c25 : 0 < ((rdOf ByteArray.empty t145 x4_2).size : Int)
           rotate_left
           ·rw [if_neg c25] at H
            exact ab H
           rw [if_pos c25] at H
           have c25b0 : decide (0 < ((rdOf ByteArray.empty t145 x4_2).size : Int)) = true := decide_eq_true c25
           have c25b1 : decide (0 < (rdOf ByteArray.empty t145 x4_2).size) = true := decide_eq_true (by omega)
           clear c25
           by_cases c27 : (bt (rdOf ByteArray.empty t145 x4_2) 0) = 48
           ·rw [if_pos c27] at H
            have c27b0 : ((bt (rdOf ByteArray.empty t145 x4_2) 0) == 48) = true := beq_iff_eq.mpr c27
            have c27b1 : ((bt (rdOf ByteArray.empty t145 x4_2) 0) != 48) = false := bne_eq_false_iff_eq.mpr c27
            clear c27
            obtain rfl := Option.some.inj H
            have p148 : 0 ≤ (x4_2 : Int) := od
            have q148 : x4_2 < (t145.length : Int) := od
            obtain ⟨ad148, e148, hx148_0⟩ := Kd.at_string (Kd.R_reads' HO_3.out).2.2 x4_2 p148 q148
            cases e148
            replace p148 := eq_true p148
            replace q148 := eq_true q148
            go_wp2_with (first | ((with_reducible refine gate_callee (f := 106) rfl ?_); refine goesL_ (some 41) rfl rfl Tryz.func106 kf rfl #[.string (rdOf ByteArray.empty t145 x4_2), .int .i64 3] rfl ml ?_; (with_reducible refine (postriderref04_Number.calls k2 (rdOf ByteArray.empty t145 x4_2) 3 t149 t150 _ A21.out).mono ?_); rintro e w' ⟨rfl, ⟨nd, rfl⟩⟩; refine ⟨_, rfl, ?_⟩; have p151 : 0 ≤ (x4_2 : Int) := od; have q151 : x4_2 < (t145.length : Int) := od; obtain ⟨ad151, e151, hx151_0⟩ := Kd.at_string (Kd.R_reads' HO_3.out).2.2 x4_2 p151 q151; obtain rfl : ad148 = ad151 := (by injection e151); replace p151 := eq_true p151; replace q151 := eq_true q151; have p152 : 0 ≤ (x4_2 : Int) := od; have q152 : x4_2 < (t145.length : Int) := od; obtain ⟨ad152, e152, hx152_0⟩ := Kd.at_string (Kd.R_reads' HO_3.out).2.2 x4_2 p152 q152; obtain rfl : ad148 = ad152 := (by injection e152); replace p152 := eq_true p152; replace q152 := eq_true q152; have p26 : 0 ≤ (0 : Int) := (by omega); have q26 : 0 < (rdOf ByteArray.empty t145 x4_2).size := (by have : (0 : Int) < ((rdOf ByteArray.empty t145 x4_2).size : Int) := od; omega); have hx26 : ∀ h : 0 < (rdOf ByteArray.empty t145 x4_2).size, (((rdOf ByteArray.empty t145 x4_2)[0]'h).toNat : Int) = bt (rdOf ByteArray.empty t145 x4_2) 0 := bt_at (rdOf ByteArray.empty t145 x4_2) 0; clear p26; have qi26 : (0 < ((rdOf ByteArray.empty t145 x4_2).size : Int)) = True := eq_true (od); replace q26 := eq_true q26))
            go_ret
            exact ⟨rf, bl⟩
           ·rw [if_neg c27] at H
            have c27b0 : ((bt (rdOf ByteArray.empty t145 x4_2) 0) == 48) = false := beq_eq_false_iff_ne.mpr c27
            have c27b1 : ((bt (rdOf ByteArray.empty t145 x4_2) 0) != 48) = true := bne_iff_ne.mpr c27
            have H' := Aside0.mk H
            clear H
            have p148 : 0 ≤ (x4_2 : Int) := od
            have q148 : x4_2 < (t145.length : Int) := od
            obtain ⟨ad148, e148, hx148_0⟩ := Kd.at_string (Kd.R_reads' HO_3.out).2.2 x4_2 p148 q148
            cases e148
            replace p148 := eq_true p148
            replace q148 := eq_true q148
            go_wp2_with (first | ((with_reducible refine gate_callee (f := 106) rfl ?_); refine goesL_ (some 41) rfl rfl Tryz.func106 kf rfl #[.string (rdOf ByteArray.empty t145 x4_2), .int .i64 3] rfl ml ?_; (with_reducible refine (postriderref04_Number.calls k2 (rdOf ByteArray.empty t145 x4_2) 3 t149 t150 _ A21.out).mono ?_); rintro e w' ⟨rfl, ⟨nd, rfl⟩⟩; refine ⟨_, rfl, ?_⟩; have p151 : 0 ≤ (x4_2 : Int) := od; have q151 : x4_2 < (t145.length : Int) := od; obtain ⟨ad151, e151, hx151_0⟩ := Kd.at_string (Kd.R_reads' HO_3.out).2.2 x4_2 p151 q151; obtain rfl : ad148 = ad151 := (by injection e151); replace p151 := eq_true p151; replace q151 := eq_true q151; have p152 : 0 ≤ (x4_2 : Int) := od; have q152 : x4_2 < (t145.length : Int) := od; obtain ⟨ad152, e152, hx152_0⟩ := Kd.at_string (Kd.R_reads' HO_3.out).2.2 x4_2 p152 q152; obtain rfl : ad148 = ad152 := (by injection e152); replace p152 := eq_true p152; replace q152 := eq_true q152; have p26 : 0 ≤ (0 : Int) := (by omega); have q26 : 0 < (rdOf ByteArray.empty t145 x4_2).size := (by have : (0 : Int) < ((rdOf ByteArray.empty t145 x4_2).size : Int) := od; omega); have hx26 : ∀ h : 0 < (rdOf ByteArray.empty t145 x4_2).size, (((rdOf ByteArray.empty t145 x4_2)[0]'h).toNat : Int) = bt (rdOf ByteArray.empty t145 x4_2) 0 := bt_at (rdOf ByteArray.empty t145 x4_2) 0; clear p26; have qi26 : (0 < ((rdOf ByteArray.empty t145 x4_2).size : Int)) = True := eq_true (od); replace q26 := eq_true q26))
            go_roundg k2
            case measure => have := HJ1.out; have := HK2.out; omega
            case rel => exact ⟨(wrap64 (x4_2 + 1)), rs, H', ⟨by have := HJ1.out; have := HK2.out; omega⟩, ⟨kr HO_3.out⟩, ⟨bl⟩⟩
          ·rw [if_neg c24] at H
           have c24b0 : decide (1 < ((rdOf ByteArray.empty t145 x4_2).size : Int)) = false := decide_eq_false c24
           have c24b1 : decide (1 < (rdOf ByteArray.empty t145 x4_2).size) = false := decide_eq_false (by omega)
           clear c24
           have H' := Aside0.mk H
           clear H
           have p148 : 0 ≤ (x4_2 : Int) := od
           have q148 : x4_2 < (t145.length : Int) := od
           obtain ⟨ad148, e148, hx148_0⟩ := Kd.at_string (Kd.R_reads' HO_3.out).2.2 x4_2 p148 q148
           cases e148
           replace p148 := eq_true p148
           replace q148 := eq_true q148
           go_wp2_with (first | ((with_reducible refine gate_callee (f := 106) rfl ?_); refine goesL_ (some 41) rfl rfl Tryz.func106 kf rfl #[.string (rdOf ByteArray.empty t145 x4_2), .int .i64 3] rfl ml ?_; (with_reducible refine (postriderref04_Number.calls k2 (rdOf ByteArray.empty t145 x4_2) 3 t149 t150 _ A21.out).mono ?_); rintro e w' ⟨rfl, ⟨nd, rfl⟩⟩; refine ⟨_, rfl, ?_⟩; have p151 : 0 ≤ (x4_2 : Int) := od; have q151 : x4_2 < (t145.length : Int) := od; obtain ⟨ad151, e151, hx151_0⟩ := Kd.at_string (Kd.R_reads' HO_3.out).2.2 x4_2 p151 q151; obtain rfl : ad148 = ad151 := (by injection e151); replace p151 := eq_true p151; replace q151 := eq_true q151))
           go_roundg k2
           case measure => have := HJ1.out; have := HK2.out; omega
           case rel => exact ⟨(wrap64 (x4_2 + 1)), rs, H', ⟨by have := HJ1.out; have := HK2.out; omega⟩, ⟨kr HO_3.out⟩, ⟨bl⟩⟩
        ·rw [if_neg c22] at H
         have c22b0 : (t150 == 0) = false := beq_eq_false_iff_ne.mpr c22
         have c22b1 : (t150 != 0) = true := bne_iff_ne.mpr c22
         obtain rfl := Option.some.inj H
         have p148 : 0 ≤ (x4_2 : Int) := od
         have q148 : x4_2 < (t145.length : Int) := od
         obtain ⟨ad148, e148, hx148_0⟩ := Kd.at_string (Kd.R_reads' HO_3.out).2.2 x4_2 p148 q148
         cases e148
         replace p148 := eq_true p148
         replace q148 := eq_true q148
         go_wp2_with (first | ((with_reducible refine gate_callee (f := 106) rfl ?_); refine goesL_ (some 41) rfl rfl Tryz.func106 kf rfl #[.string (rdOf ByteArray.empty t145 x4_2), .int .i64 3] rfl ml ?_; (with_reducible refine (postriderref04_Number.calls k2 (rdOf ByteArray.empty t145 x4_2) 3 t149 t150 _ A21.out).mono ?_); rintro e w' ⟨rfl, ⟨nd, rfl⟩⟩; refine ⟨_, rfl, ?_⟩))
         go_ret
         exact ⟨rf, bl⟩
       ·rw [if_neg c18] at H
        have c18b0 : decide (x4_2 < 4) = false := decide_eq_false c18
        clear c18
        obtain rfl := Option.some.inj H
        go_wp2
        go_ret
        exact ⟨rf, bl⟩
    ·rw [if_neg c15] at H
     have c15b0 : ((t145.length : Int) == 4) = false := beq_eq_false_iff_ne.mpr c15
     have c15b1 : ((t145.length : Int) != 4) = true := bne_iff_ne.mpr c15
     obtain rfl := Option.some.inj H
     go_wp2_with (first | ((with_reducible refine gate_callee (f := 105) rfl ?_); refine goesL_ (some 28) rfl rfl Tryz.func105 kf rfl #[.string (a0.extract 1 ((wrap64 ((a0.size : Int) - 1)) : Int).toNat), .int .u8 46] rfl ml ?_; (with_reducible refine (postriderref04_Split.calls kj1 (a0.extract 1 ((wrap64 ((a0.size : Int) - 1)) : Int).toNat) 46 t145 _ A14.out).mono ?_); rintro e w28 ⟨v146, rfl, ho0, hb⟩; refine ⟨_, rfl, ?_⟩; have HO147 := Aside0.mk (Kd.R_lower ho0 (below_size bl)); replace HB := Aside0.mk (below_step bl hb); (try clear hb); (try clear hb2); (try clear hk); (try clear hi); (try clear ho0); obtain ⟨Ao29, co29, eo29⟩ := Kd.R_slice HO147.out; subst eo29))
     go_ret
     exact ⟨rf, bl⟩

/-! ### postriderref05_letter: function 84 -/
def postriderref05_letter.f (a0 : Int) : Option (Bool) := if a0 ≥ 97 then (if a0 ≤ 122 then (some true) else (if a0 ≥ 65 then (if a0 ≤ 90 then (some true) else (if a0 ≥ 48 then (some (decide (a0 ≤ 57))) else (some false))) else (if a0 ≥ 48 then (some (decide (a0 ≤ 57))) else (some false)))) else (if a0 ≥ 65 then (if a0 ≤ 90 then (some true) else (if a0 ≥ 48 then (some (decide (a0 ≤ 57))) else (some false))) else (if a0 ≥ 48 then (some (decide (a0 ≤ 57))) else (some false)))
theorem postriderref05_letter.calls (a0 : Int) (r : Bool) (w : World) (h : postriderref05_letter.f a0 = some r) :
  Calls Tryz.prog 84 #[.int .u8 a0] w fun e w' => e = .returned (.bool r) ∧ Drawn0 w w' := by
 have H : (if a0 ≥ 97 then (if a0 ≤ 122 then (some true) else (if a0 ≥ 65 then (if a0 ≤ 90 then (some true) else (if a0 ≥ 48 then (some (decide (a0 ≤ 57))) else (some false))) else (if a0 ≥ 48 then (some (decide (a0 ≤ 57))) else (some false)))) else (if a0 ≥ 65 then (if a0 ≤ 90 then (some true) else (if a0 ≥ 48 then (some (decide (a0 ≤ 57))) else (some false))) else (if a0 ≥ 48 then (some (decide (a0 ≤ 57))) else (some false)))) = some r := h
 clear h
 by_cases c2 : a0 ≥ 97
 ·rw [if_pos c2] at H
  have c2b0 : decide (97 ≤ a0) = true := decide_eq_true c2
  clear c2
  by_cases c3 : a0 ≤ 122
  ·rw [if_pos c3] at H
   have c3b0 : decide (a0 ≤ 122) = true := decide_eq_true c3
   clear c3
   obtain rfl := Option.some.inj H
   go_enter Tryz.func84, Tryz.ntmps84
   go_wp2
   go_ret
   exact ⟨by first | rfl | (simp [bneNil]; done) | (simp; done) | (simp [*]; done), dr⟩
  ·rw [if_neg c3] at H
   have c3b0 : decide (a0 ≤ 122) = false := decide_eq_false c3
   clear c3
   by_cases c4 : a0 ≥ 65
   ·rw [if_pos c4] at H
    have c4b0 : decide (65 ≤ a0) = true := decide_eq_true c4
    clear c4
    by_cases c5 : a0 ≤ 90
    ·rw [if_pos c5] at H
     have c5b0 : decide (a0 ≤ 90) = true := decide_eq_true c5
     clear c5
     obtain rfl := Option.some.inj H
     go_enter Tryz.func84, Tryz.ntmps84
     go_wp2
     go_ret
     exact ⟨by first | rfl | (simp [bneNil]; done) | (simp; done) | (simp [*]; done), dr⟩
    ·rw [if_neg c5] at H
     have c5b0 : decide (a0 ≤ 90) = false := decide_eq_false c5
     clear c5
     by_cases c6 : a0 ≥ 48
     ·rw [if_pos c6] at H
      have c6b0 : decide (48 ≤ a0) = true := decide_eq_true c6
      clear c6
      obtain rfl := Option.some.inj H
      go_enter Tryz.func84, Tryz.ntmps84
      go_wp2
      go_ret
      exact ⟨by first | rfl | (simp [bneNil]; done) | (simp; done) | (simp [*]; done), dr⟩
     ·rw [if_neg c6] at H
      have c6b0 : decide (48 ≤ a0) = false := decide_eq_false c6
      clear c6
      obtain rfl := Option.some.inj H
      go_enter Tryz.func84, Tryz.ntmps84
      go_wp2
      go_ret
      exact ⟨by first | rfl | (simp [bneNil]; done) | (simp; done) | (simp [*]; done), dr⟩
   ·rw [if_neg c4] at H
    have c4b0 : decide (65 ≤ a0) = false := decide_eq_false c4
    clear c4
    by_cases c7 : a0 ≥ 48
    ·rw [if_pos c7] at H
     have c7b0 : decide (48 ≤ a0) = true := decide_eq_true c7
     clear c7
     obtain rfl := Option.some.inj H
     go_enter Tryz.func84, Tryz.ntmps84
     go_wp2
     go_ret
     exact ⟨by first | rfl | (simp [bneNil]; done) | (simp; done) | (simp [*]; done), dr⟩
    ·rw [if_neg c7] at H
     have c7b0 : decide (48 ≤ a0) = false := decide_eq_false c7
     clear c7
     obtain rfl := Option.some.inj H
     go_enter Tryz.func84, Tryz.ntmps84
     go_wp2
     go_ret
     exact ⟨by first | rfl | (simp [bneNil]; done) | (simp; done) | (simp [*]; done), dr⟩
 ·rw [if_neg c2] at H
  have c2b0 : decide (97 ≤ a0) = false := decide_eq_false c2
  clear c2
  by_cases c8 : a0 ≥ 65
  ·rw [if_pos c8] at H
   have c8b0 : decide (65 ≤ a0) = true := decide_eq_true c8
   clear c8
   by_cases c9 : a0 ≤ 90
   ·rw [if_pos c9] at H
    have c9b0 : decide (a0 ≤ 90) = true := decide_eq_true c9
    clear c9
    obtain rfl := Option.some.inj H
    go_enter Tryz.func84, Tryz.ntmps84
    go_wp2
    go_ret
    exact ⟨by first | rfl | (simp [bneNil]; done) | (simp; done) | (simp [*]; done), dr⟩
   ·rw [if_neg c9] at H
    have c9b0 : decide (a0 ≤ 90) = false := decide_eq_false c9
    clear c9
    by_cases c10 : a0 ≥ 48
    ·rw [if_pos c10] at H
     have c10b0 : decide (48 ≤ a0) = true := decide_eq_true c10
     clear c10
     obtain rfl := Option.some.inj H
     go_enter Tryz.func84, Tryz.ntmps84
     go_wp2
     go_ret
     exact ⟨by first | rfl | (simp [bneNil]; done) | (simp; done) | (simp [*]; done), dr⟩
    ·rw [if_neg c10] at H
     have c10b0 : decide (48 ≤ a0) = false := decide_eq_false c10
     clear c10
     obtain rfl := Option.some.inj H
     go_enter Tryz.func84, Tryz.ntmps84
     go_wp2
     go_ret
     exact ⟨by first | rfl | (simp [bneNil]; done) | (simp; done) | (simp [*]; done), dr⟩
  ·rw [if_neg c8] at H
   have c8b0 : decide (65 ≤ a0) = false := decide_eq_false c8
   clear c8
   by_cases c11 : a0 ≥ 48
   ·rw [if_pos c11] at H
    have c11b0 : decide (48 ≤ a0) = true := decide_eq_true c11
    clear c11
    obtain rfl := Option.some.inj H
    go_enter Tryz.func84, Tryz.ntmps84
    go_wp2
    go_ret
    exact ⟨by first | rfl | (simp [bneNil]; done) | (simp; done) | (simp [*]; done), dr⟩
   ·rw [if_neg c11] at H
    have c11b0 : decide (48 ≤ a0) = false := decide_eq_false c11
    clear c11
    obtain rfl := Option.some.inj H
    go_enter Tryz.func84, Tryz.ntmps84
    go_wp2
    go_ret
    exact ⟨by first | rfl | (simp [bneNil]; done) | (simp; done) | (simp [*]; done), dr⟩

end Go.Proofs.YtgelfnjicglmbaaGreatDoor.Q
end
section
namespace Go.Proofs.YtgelfnjicglmbaaGreatDoor.Q

/-! ### postriderref05_Domain: function 55 -/
mutual
def postriderref05_Domain.j0 : Nat → ByteArray → Bool → Option (Int)
 | 0, _, _ => none
 | k + 1, x0, x13 => if x13 = true then ((postriderref05_literal.f k x0).bind fun t153 => (if t153 = true then (some 0) else (some 5))) else (postriderref05_Domain.l0 k x0 (decide ((x0.size : Int) > 255)) 0 0)
def postriderref05_Domain.l0 : Nat → ByteArray → Bool → Int → Int → Option (Int)
 | 0, _, _, _, _ => none
 | k + 1, x0, x3, x4, x5 => if x5 ≤ (x0.size : Int) then (if x5 < (x0.size : Int) then (if 0 ≤ x5 then (postriderref05_Domain.j2 k x0 x3 x4 x5 ((bt x0 x5) != 46)) else (none)) else (postriderref05_Domain.j2 k x0 x3 x4 x5 false)) else (if x3 = true then (some 3) else (some 0))
def postriderref05_Domain.j2 : Nat → ByteArray → Bool → Int → Int → Bool → Option (Int)
 | 0, _, _, _, _, _ => none
 | k + 1, x0, x3, x4, x5, x34 => if x34 = true then (if 0 ≤ x5 then (if x5 < (x0.size : Int) then ((postriderref05_letter.f (bt x0 x5)).bind fun t154 => (if t154 = true then (postriderref05_Domain.l0 k x0 x3 x4 (wrap64 (x5 + 1))) else (if (bt x0 x5) = 45 then (postriderref05_Domain.l0 k x0 x3 x4 (wrap64 (x5 + 1))) else (some 5)))) else (none)) else (none)) else (if x5 = x4 then (postriderref05_Domain.j3 k x0 x3 x4 x5 true) else (if 0 ≤ x4 then (if x4 < (x0.size : Int) then (if (bt x0 x4) = 45 then (postriderref05_Domain.j3 k x0 x3 x4 x5 true) else (if 0 ≤ (wrap64 (x5 - 1)) then (if (wrap64 (x5 - 1)) < (x0.size : Int) then (postriderref05_Domain.j3 k x0 x3 x4 x5 ((bt x0 (wrap64 (x5 - 1))) == 45)) else (none)) else (none))) else (none)) else (none)))
def postriderref05_Domain.j3 : Nat → ByteArray → Bool → Int → Int → Bool → Option (Int)
 | 0, _, _, _, _, _ => none
 | k + 1, x0, x3, x4, x5, x61 => if x61 = true then (some 5) else (if (wrap64 (x5 - x4)) > 63 then (postriderref05_Domain.l0 k x0 true (wrap64 (x5 + 1)) (wrap64 (x5 + 1))) else (postriderref05_Domain.l0 k x0 x3 (wrap64 (x5 + 1)) (wrap64 (x5 + 1))))
end
def postriderref05_Domain.f (k : Nat) (a0 : ByteArray) : Option (Int) := if (a0.size : Int) > 0 then (if 0 < (a0.size : Int) then (postriderref05_Domain.j0 k a0 ((bt a0 0) == 91)) else (none)) else (postriderref05_Domain.j0 k a0 false)
theorem postriderref05_Domain.mono_l : ∀ k, (∀ y0 y1, LeO (postriderref05_Domain.j0 k y0 y1) (postriderref05_Domain.j0 (k + 1) y0 y1)) ∧ (∀ y0 y1 y2 y3, LeO (postriderref05_Domain.l0 k y0 y1 y2 y3) (postriderref05_Domain.l0 (k + 1) y0 y1 y2 y3)) ∧ (∀ y0 y1 y2 y3 y4, LeO (postriderref05_Domain.j2 k y0 y1 y2 y3 y4) (postriderref05_Domain.j2 (k + 1) y0 y1 y2 y3 y4)) ∧ (∀ y0 y1 y2 y3 y4, LeO (postriderref05_Domain.j3 k y0 y1 y2 y3 y4) (postriderref05_Domain.j3 (k + 1) y0 y1 y2 y3 y4))
 | 0 => ⟨fun _ _ r h => by simp [postriderref05_Domain.j0] at h, fun _ _ _ _ r h => by simp [postriderref05_Domain.l0] at h, fun _ _ _ _ _ r h => by simp [postriderref05_Domain.j2] at h, fun _ _ _ _ _ r h => by simp [postriderref05_Domain.j3] at h⟩
 | k + 1 => by
  obtain ⟨ih0, ih1, ih2, ih3⟩ := postriderref05_Domain.mono_l k
  refine ⟨?_, ?_, ?_, ?_⟩
  ·intro y0 y1
   unfold postriderref05_Domain.j0
   repeat' first
   | (with_reducible first | exact ih0 _ _ | exact ih1 _ _ _ _ | exact ih2 _ _ _ _ _ | exact ih3 _ _ _ _ _ | exact postriderref05_literal.mono _ _ | exact LeO.refl _ | exact LeO.none _ | refine LeO.ite ?_ ?_ | refine LeO.bind ?_ (fun _ => ?_))
  ·intro y0 y1 y2 y3
   unfold postriderref05_Domain.l0
   repeat' first
   | (with_reducible first | exact ih0 _ _ | exact ih1 _ _ _ _ | exact ih2 _ _ _ _ _ | exact ih3 _ _ _ _ _ | exact postriderref05_literal.mono _ _ | exact LeO.refl _ | exact LeO.none _ | refine LeO.ite ?_ ?_ | refine LeO.bind ?_ (fun _ => ?_))
  ·intro y0 y1 y2 y3 y4
   unfold postriderref05_Domain.j2
   repeat' first
   | (with_reducible first | exact ih0 _ _ | exact ih1 _ _ _ _ | exact ih2 _ _ _ _ _ | exact ih3 _ _ _ _ _ | exact postriderref05_literal.mono _ _ | exact LeO.refl _ | exact LeO.none _ | refine LeO.ite ?_ ?_ | refine LeO.bind ?_ (fun _ => ?_))
  ·intro y0 y1 y2 y3 y4
   unfold postriderref05_Domain.j3
   repeat' first
   | (with_reducible first | exact ih0 _ _ | exact ih1 _ _ _ _ | exact ih2 _ _ _ _ _ | exact ih3 _ _ _ _ _ | exact postriderref05_literal.mono _ _ | exact LeO.refl _ | exact LeO.none _ | refine LeO.ite ?_ ?_ | refine LeO.bind ?_ (fun _ => ?_))
theorem postriderref05_Domain.mono : ∀ a0 k, LeO (postriderref05_Domain.f k a0) (postriderref05_Domain.f (k + 1) a0) := by
 intro a0 k
 obtain ⟨ih0, ih1, ih2, ih3⟩ := postriderref05_Domain.mono_l k
 unfold postriderref05_Domain.f
 repeat' first
   | (with_reducible first | exact ih0 _ _ | exact ih1 _ _ _ _ | exact ih2 _ _ _ _ _ | exact ih3 _ _ _ _ _ | exact postriderref05_literal.mono _ _ | exact LeO.refl _ | exact LeO.none _ | refine LeO.ite ?_ ?_ | refine LeO.bind ?_ (fun _ => ?_))
theorem postriderref05_Domain.calls (k : Nat) (a0 : ByteArray) (r : Int) (w : World) (h : postriderref05_Domain.f k a0 = some r) :
  Calls Tryz.prog 55 #[.string a0] w fun e w' => e = .returned (.int .i64 r) ∧ Below w.heap.size w w' := by
 have HB := Aside0.mk (Below.refl w.heap.size w)
 have H : (if (a0.size : Int) > 0 then (if 0 < (a0.size : Int) then (postriderref05_Domain.j0 k a0 ((bt a0 0) == 91)) else (none)) else (postriderref05_Domain.j0 k a0 false)) = some r := h
 clear h
 have HC2 := Aside0.mk H
 clear H
 go_enter Tryz.func55, Tryz.ntmps55
 go_upto_region 1 with (fail)
 go_cut [13] (fun v13 wc => ∃ (kq : Nat) (x13_1 : Bool), v13 = .bool x13_1 ∧ Aside0 (postriderref05_Domain.j0 kq a0 x13_1 = some r) ∧ Aside0 (kq ≤ k) ∧ Aside0 (Below w.heap.size w wc))
 case first =>
  have H := HC2.out
  clear HC2
  by_cases c3 : (a0.size : Int) > 0
  ·rw [if_pos c3] at H
   have c3b0 : decide (0 < (a0.size : Int)) = true := decide_eq_true c3
   have c3b1 : decide (0 < a0.size) = true := decide_eq_true (by omega)
   clear c3
   (first | rw [c3b0] | (simp only [i64_w, i32_w]; rw [c3b0]) | skip)
   by_cases c4 : 0 < (a0.size : Int)
   rotate_left
   ·rw [if_neg c4] at H
    exact ab H
   rw [if_pos c4] at H
   have c4b0 : decide (0 < (a0.size : Int)) = true := decide_eq_true c4
   have c4b1 : decide (0 < a0.size) = true := decide_eq_true (by omega)
   clear c4
   have H' := Aside0.mk H
   clear H
   have p5 : 0 ≤ (0 : Int) := (by omega)
   have q5 : 0 < a0.size := (by have : (0 : Int) < (a0.size : Int) := od; omega)
   have hx5 : ∀ h : 0 < a0.size, ((a0[0]'h).toNat : Int) = bt a0 0 := bt_at a0 0
   clear p5
   have qi5 : (0 < (a0.size : Int)) = True := eq_true (od)
   replace q5 := eq_true q5
   go_wp2
   go_meet
   case rel => exact ⟨_, (((bt a0 0) == 91)), rs, H', ⟨by first | omega | exact Nat.le_refl _⟩, ⟨bl⟩⟩
  ·rw [if_neg c3] at H
   have c3b0 : decide (0 < (a0.size : Int)) = false := decide_eq_false c3
   have c3b1 : decide (0 < a0.size) = false := decide_eq_false (by omega)
   clear c3
   (first | rw [c3b0] | (simp only [i64_w, i32_w]; rw [c3b0]) | skip)
   have H' := Aside0.mk H
   clear H
   go_wp2
   go_meet
   case rel => exact ⟨_, (false), rs, H', ⟨by first | omega | exact Nat.le_refl _⟩, ⟨bl⟩⟩
 case rest =>
  clear HC2
  try clear p2
  try clear c3
  try clear c3b0
  try clear c3b1
  try clear c4
  try clear c4b0
  try clear c4b1
  try clear c5
  try clear p5
  try clear q5
  try clear hx5
  try clear qi5
  try clear p5
  try clear q5
  obtain ⟨kq, x13_1, rfl, HA, HJ1, HB⟩ := hcut
  cases kq with
  | zero => exact absurd HA.out (by simp [postriderref05_Domain.j0])
  | succ kj1 =>
   have H := HA.out
   clear HA
   simp only [postriderref05_Domain.j0] at H
   by_cases c6 : x13_1 = true
   ·subst c6
    replace H : ((postriderref05_literal.f kj1 a0).bind fun t153 => (if t153 = true then (some 0) else (some 5))) = some r := by rw [if_pos rfl] at H; exact H
    obtain ⟨t153, A70, H⟩ := Option.bind_eq_some_iff.mp H
    replace H : (if t153 = true then (some 0) else (some 5)) = some r := H
    have A7 := Aside0.mk A70
    clear A70
    by_cases c8 : t153 = true
    ·subst c8
     replace H : (some 0) = some r := by rw [if_pos rfl] at H; exact H
     obtain rfl := Option.some.inj H
     go_wp2_with (first | ((with_reducible refine gate_callee (f := 83) rfl ?_); refine goesL_ (some 15) rfl rfl Tryz.func83 kf rfl #[.string a0] rfl ml ?_; (with_reducible refine (postriderref05_literal.calls kj1 a0 true _ A7.out).mono ?_); rintro e w9 ⟨rfl, hb⟩; refine ⟨_, rfl, ?_⟩; replace HB := Aside0.mk (below_step bl hb); (try clear hb); (try clear hb2); (try clear hk); (try clear hi)))
     go_ret
     exact ⟨rf, bl⟩
    ·replace c8 := Bool.eq_false_iff.mpr c8
     subst c8
     replace H : (some 5) = some r := by rw [if_neg (show ¬ (false = true) by decide)] at H; exact H
     obtain rfl := Option.some.inj H
     go_wp2_with (first | ((with_reducible refine gate_callee (f := 83) rfl ?_); refine goesL_ (some 15) rfl rfl Tryz.func83 kf rfl #[.string a0] rfl ml ?_; (with_reducible refine (postriderref05_literal.calls kj1 a0 false _ A7.out).mono ?_); rintro e w10 ⟨rfl, hb⟩; refine ⟨_, rfl, ?_⟩; replace HB := Aside0.mk (below_step bl hb); (try clear hb); (try clear hb2); (try clear hk); (try clear hi)))
     go_ret
     exact ⟨rf, bl⟩
   ·replace c6 := Bool.eq_false_iff.mpr c6
    subst c6
    replace H : (postriderref05_Domain.l0 kj1 a0 (decide ((a0.size : Int) > 255)) 0 0) = some r := by rw [if_neg (show ¬ (false = true) by decide)] at H; exact H
    have H' := Aside0.mk H
    clear H
    go_wp2
    go_loopg [3, 4, 5] kj1 (fun kq v3 v4 v5 w' => ∃ (x3_2 : Bool) (x4_2 : Int) (x5_2 : Int), v3 = .bool x3_2 ∧ v4 = .int .i64 x4_2 ∧ v5 = .int .i64 x5_2 ∧ Aside0 (postriderref05_Domain.l0 kq a0 x3_2 x4_2 x5_2 = some r) ∧ Aside0 (kq ≤ kj1) ∧ Aside0 (Below w.heap.size w w'))
    case atStart => exact ⟨(decide ((a0.size : Int) > 255)), (0), (0), rs, rs, rs, H', ⟨Nat.le_refl _⟩, ⟨bl⟩⟩
    case round =>
     clear H'
     try clear p2
     try clear c3
     try clear c3b0
     try clear c3b1
     try clear c4
     try clear c4b0
     try clear c4b1
     try clear c5
     try clear p5
     try clear q5
     try clear hx5
     try clear qi5
     try clear c6
     try clear c8
     try clear p2
     try clear p5
     try clear q5
     obtain ⟨x3_2, x4_2, x5_2, rfl, rfl, rfl, HA, HK2, HB⟩ := hrel
     cases gk with
     | zero => exact absurd HA.out (by simp [postriderref05_Domain.l0])
     | succ k2 =>
      have H := HA.out
      clear HA
      simp only [postriderref05_Domain.l0] at H
      by_cases c11 : x5_2 ≤ (a0.size : Int)
      ·rw [if_pos c11] at H
       have c11b0 : decide (x5_2 ≤ (a0.size : Int)) = true := decide_eq_true c11
       clear c11
       have HC12 := Aside0.mk H
       clear H
       go_upto_region 10 with (fail)
       go_cut [34] (fun v34 wc => ∃ (kq : Nat) (x34_11 : Bool), v34 = .bool x34_11 ∧ Aside0 (postriderref05_Domain.j2 kq a0 x3_2 x4_2 x5_2 x34_11 = some r) ∧ Aside0 (kq ≤ k2) ∧ Aside0 (Below w.heap.size w wc))
       case first =>
        have H := HC12.out
        clear HC12
        by_cases c13 : x5_2 < (a0.size : Int)
        ·rw [if_pos c13] at H
         have c13b0 : decide (x5_2 < (a0.size : Int)) = true := decide_eq_true c13
         clear c13
         (first | rw [c13b0] | (simp only [i64_w, i32_w]; rw [c13b0]) | skip)
         by_cases c14 : 0 ≤ x5_2
         rotate_left
         ·rw [if_neg c14] at H
          exact ab H
         rw [if_pos c14] at H
         have c14b0 : decide (0 ≤ x5_2) = true := decide_eq_true c14
         clear c14
         have H' := Aside0.mk H
         clear H
         have p15 : 0 ≤ (x5_2 : Int) := od
         have q15 : x5_2 < (a0.size : Int) := od
         have hx15 := bt_at a0 x5_2
         replace p15 := eq_true p15
         replace q15 := eq_true q15
         go_wp2
         go_meet
         case rel => exact ⟨_, (((bt a0 x5_2) != 46)), rs, H', ⟨by have := HJ1.out; have := HK2.out; first | omega | exact Nat.le_refl _⟩, ⟨bl⟩⟩
        ·rw [if_neg c13] at H
         have c13b0 : decide (x5_2 < (a0.size : Int)) = false := decide_eq_false c13
         clear c13
         (first | rw [c13b0] | (simp only [i64_w, i32_w]; rw [c13b0]) | skip)
         have H' := Aside0.mk H
         clear H
         go_wp2
         go_meet
         case rel => exact ⟨_, (false), rs, H', ⟨by have := HJ1.out; have := HK2.out; first | omega | exact Nat.le_refl _⟩, ⟨bl⟩⟩
       case rest =>
        clear HC12
        try clear c1
        try clear p1
        try clear q1
        try clear hx1
        try clear p2
        try clear c3
        try clear c3b0
        try clear c3b1
        try clear c4
        try clear c4b0
        try clear c4b1
        try clear c5
        try clear p5
        try clear q5
        try clear hx5
        try clear qi5
        try clear c6
        try clear c8
        try clear c11
        try clear c11b0
        try clear c13
        try clear c13b0
        try clear c14
        try clear c14b0
        try clear p15
        try clear q15
        try clear hx15
        try clear p15
        try clear p2
        try clear p5
        try clear q15
        try clear q5
        obtain ⟨kq, x34_11, rfl, HA, HJ11, HB⟩ := hcut
        cases kq with
        | zero => exact absurd HA.out (by simp [postriderref05_Domain.j2])
        | succ kj11 =>
         have H := HA.out
         clear HA
         simp only [postriderref05_Domain.j2] at H
         by_cases c16 : x34_11 = true
         ·subst c16
          replace H : (if 0 ≤ x5_2 then (if x5_2 < (a0.size : Int) then ((postriderref05_letter.f (bt a0 x5_2)).bind fun t154 => (if t154 = true then (postriderref05_Domain.l0 kj11 a0 x3_2 x4_2 (wrap64 (x5_2 + 1))) else (if (bt a0 x5_2) = 45 then (postriderref05_Domain.l0 kj11 a0 x3_2 x4_2 (wrap64 (x5_2 + 1))) else (some 5)))) else (none)) else (none)) = some r := by rw [if_pos rfl] at H; exact H
          by_cases c17 : 0 ≤ x5_2
          rotate_left
          ·rw [if_neg c17] at H
           exact ab H
          rw [if_pos c17] at H
          have c17b0 : decide (0 ≤ x5_2) = true := decide_eq_true c17
          clear c17
          by_cases c18 : x5_2 < (a0.size : Int)
          rotate_left
          ·rw [if_neg c18] at H
           exact ab H
          rw [if_pos c18] at H
          have c18b0 : decide (x5_2 < (a0.size : Int)) = true := decide_eq_true c18
          clear c18
          obtain ⟨t154, A200, H⟩ := Option.bind_eq_some_iff.mp H
          replace H : (if t154 = true then (postriderref05_Domain.l0 kj11 a0 x3_2 x4_2 (wrap64 (x5_2 + 1))) else (if (bt a0 x5_2) = 45 then (postriderref05_Domain.l0 kj11 a0 x3_2 x4_2 (wrap64 (x5_2 + 1))) else (some 5))) = some r := H
          have A20 := Aside0.mk A200
          clear A200
          by_cases c21 : t154 = true
          ·subst c21
           replace H : (postriderref05_Domain.l0 kj11 a0 x3_2 x4_2 (wrap64 (x5_2 + 1))) = some r := by rw [if_pos rfl] at H; exact H
           have H' := Aside0.mk H
           clear H
           have p19 : 0 ≤ (x5_2 : Int) := od
           have q19 : x5_2 < (a0.size : Int) := od
           have hx19 := bt_at a0 x5_2
           replace p19 := eq_true p19
           replace q19 := eq_true q19
           go_wp2_with (first | ((with_reducible refine gate_callee (f := 84) rfl ?_); refine goesL_ (some 38) rfl rfl Tryz.func84 kf rfl #[.int .u8 (bt a0 x5_2)] rfl ml ?_; (with_reducible refine (postriderref05_letter.calls (bt a0 x5_2) true _ A20.out).mono ?_); rintro e w' ⟨rfl, ⟨nd, rfl⟩⟩; refine ⟨_, rfl, ?_⟩))
           go_roundg kj11
           case measure => have := HJ1.out; have := HK2.out; have := HJ11.out; omega
           case rel => exact ⟨(x3_2), (x4_2), (wrap64 (x5_2 + 1)), rs, rs, rs, H', ⟨by have := HJ1.out; have := HK2.out; have := HJ11.out; omega⟩, ⟨bl⟩⟩
          ·replace c21 := Bool.eq_false_iff.mpr c21
           subst c21
           replace H : (if (bt a0 x5_2) = 45 then (postriderref05_Domain.l0 kj11 a0 x3_2 x4_2 (wrap64 (x5_2 + 1))) else (some 5)) = some r := by rw [if_neg (show ¬ (false = true) by decide)] at H; exact H
           by_cases c23 : (bt a0 x5_2) = 45
           ·rw [if_pos c23] at H
            have c23b0 : ((bt a0 x5_2) == 45) = true := beq_iff_eq.mpr c23
            have c23b1 : ((bt a0 x5_2) != 45) = false := bne_eq_false_iff_eq.mpr c23
            clear c23
            have H' := Aside0.mk H
            clear H
            have p19 : 0 ≤ (x5_2 : Int) := od
            have q19 : x5_2 < (a0.size : Int) := od
            have hx19 := bt_at a0 x5_2
            replace p19 := eq_true p19
            replace q19 := eq_true q19
            go_wp2_with (first | ((with_reducible refine gate_callee (f := 84) rfl ?_); refine goesL_ (some 38) rfl rfl Tryz.func84 kf rfl #[.int .u8 (bt a0 x5_2)] rfl ml ?_; (with_reducible refine (postriderref05_letter.calls (bt a0 x5_2) false _ A20.out).mono ?_); rintro e w' ⟨rfl, ⟨nd, rfl⟩⟩; refine ⟨_, rfl, ?_⟩; have p22 : 0 ≤ (x5_2 : Int) := od; have q22 : x5_2 < (a0.size : Int) := od; have hx22 := bt_at a0 x5_2; replace p22 := eq_true p22; replace q22 := eq_true q22))
            go_roundg kj11
            case measure => have := HJ1.out; have := HK2.out; have := HJ11.out; omega
            case rel => exact ⟨(x3_2), (x4_2), (wrap64 (x5_2 + 1)), rs, rs, rs, H', ⟨by have := HJ1.out; have := HK2.out; have := HJ11.out; omega⟩, ⟨bl⟩⟩
           ·rw [if_neg c23] at H
            have c23b0 : ((bt a0 x5_2) == 45) = false := beq_eq_false_iff_ne.mpr c23
            have c23b1 : ((bt a0 x5_2) != 45) = true := bne_iff_ne.mpr c23
            obtain rfl := Option.some.inj H
            have p19 : 0 ≤ (x5_2 : Int) := od
            have q19 : x5_2 < (a0.size : Int) := od
            have hx19 := bt_at a0 x5_2
            replace p19 := eq_true p19
            replace q19 := eq_true q19
            go_wp2_with (first | ((with_reducible refine gate_callee (f := 84) rfl ?_); refine goesL_ (some 38) rfl rfl Tryz.func84 kf rfl #[.int .u8 (bt a0 x5_2)] rfl ml ?_; (with_reducible refine (postriderref05_letter.calls (bt a0 x5_2) false _ A20.out).mono ?_); rintro e w' ⟨rfl, ⟨nd, rfl⟩⟩; refine ⟨_, rfl, ?_⟩; have p22 : 0 ≤ (x5_2 : Int) := od; have q22 : x5_2 < (a0.size : Int) := od; have hx22 := bt_at a0 x5_2; replace p22 := eq_true p22; replace q22 := eq_true q22))
            go_ret
            exact ⟨rf, bl⟩
         ·replace c16 := Bool.eq_false_iff.mpr c16
          subst c16
          replace H : (if x5_2 = x4_2 then (postriderref05_Domain.j3 kj11 a0 x3_2 x4_2 x5_2 true) else (if 0 ≤ x4_2 then (if x4_2 < (a0.size : Int) then (if (bt a0 x4_2) = 45 then (postriderref05_Domain.j3 kj11 a0 x3_2 x4_2 x5_2 true) else (if 0 ≤ (wrap64 (x5_2 - 1)) then (if (wrap64 (x5_2 - 1)) < (a0.size : Int) then (postriderref05_Domain.j3 kj11 a0 x3_2 x4_2 x5_2 ((bt a0 (wrap64 (x5_2 - 1))) == 45)) else (none)) else (none))) else (none)) else (none))) = some r := by rw [if_neg (show ¬ (false = true) by decide)] at H; exact H
          have HC24 := Aside0.mk H
          clear H
          go_upto_region 13 with (fail)
          go_cut [61] (fun v61 wc => ∃ (kq : Nat) (x61_23 : Bool), v61 = .bool x61_23 ∧ Aside0 (postriderref05_Domain.j3 kq a0 x3_2 x4_2 x5_2 x61_23 = some r) ∧ Aside0 (kq ≤ kj11) ∧ Aside0 (Below w.heap.size w wc))
          case first =>
           have H := HC24.out
           clear HC24
           by_cases c25 : x5_2 = x4_2
           ·rw [if_pos c25] at H
            have c25b0 : (x5_2 == x4_2) = true := beq_iff_eq.mpr c25
            have c25b1 : (x5_2 != x4_2) = false := bne_eq_false_iff_eq.mpr c25
            clear c25
            (first | rw [c25b0] | (simp only [i64_w, i32_w]; rw [c25b0]) | skip)
            have H' := Aside0.mk H
            clear H
            go_wp2
            go_meet
            case rel => exact ⟨_, (true), rs, H', ⟨by have := HJ1.out; have := HK2.out; have := HJ11.out; first | omega | exact Nat.le_refl _⟩, ⟨bl⟩⟩
           ·rw [if_neg c25] at H
            have c25b0 : (x5_2 == x4_2) = false := beq_eq_false_iff_ne.mpr c25
            have c25b1 : (x5_2 != x4_2) = true := bne_iff_ne.mpr c25
            (first | rw [c25b0] | (simp only [i64_w, i32_w]; rw [c25b0]) | skip)
            by_cases c26 : 0 ≤ x4_2
            rotate_left
            ·rw [if_neg c26] at H
             exact ab H
            rw [if_pos c26] at H
            have c26b0 : decide (0 ≤ x4_2) = true := decide_eq_true c26
            clear c26
            by_cases c27 : x4_2 < (a0.size : Int)
            rotate_left
            ·rw [if_neg c27] at H
             exact ab H
            rw [if_pos c27] at H
            have c27b0 : decide (x4_2 < (a0.size : Int)) = true := decide_eq_true c27
            clear c27
            by_cases c29 : (bt a0 x4_2) = 45
            ·rw [if_pos c29] at H
             have c29b0 : ((bt a0 x4_2) == 45) = true := beq_iff_eq.mpr c29
             have c29b1 : ((bt a0 x4_2) != 45) = false := bne_eq_false_iff_eq.mpr c29
             clear c29
             have H' := Aside0.mk H
             clear H
             have p28 : 0 ≤ (x4_2 : Int) := od
             have q28 : x4_2 < (a0.size : Int) := od
             have hx28 := bt_at a0 x4_2
             replace p28 := eq_true p28
             replace q28 := eq_true q28
             go_wp2
             go_meet
             case rel => exact ⟨_, (true), rs, H', ⟨by have := HJ1.out; have := HK2.out; have := HJ11.out; first | omega | exact Nat.le_refl _⟩, ⟨bl⟩⟩
            ·rw [if_neg c29] at H
             have c29b0 : ((bt a0 x4_2) == 45) = false := beq_eq_false_iff_ne.mpr c29
             have c29b1 : ((bt a0 x4_2) != 45) = true := bne_iff_ne.mpr c29
             obtain ⟨ji30, hji30⟩ : ∃ j_ : Int, (wrap64 (x5_2 - 1)) = j_ := ⟨_, rfl⟩
             replace H : (if 0 ≤ (ji30) then (if (ji30) < (a0.size : Int) then (postriderref05_Domain.j3 kj11 a0 x3_2 x4_2 x5_2 ((bt a0 (ji30)) == 45)) else (none)) else (none)) = some r := by first | (rw [hji30] at H; exact H) | (simp only [hji30] at H ⊢; exact H)
             have hji30w : (IntKind.i64.wrap (x5_2 - 1)) = ji30 := (i64_w _).trans hji30
             by_cases c31 : 0 ≤ (ji30)
             rotate_left
             ·rw [if_neg c31] at H
              exact ab H
             rw [if_pos c31] at H
             have c31b0 : decide (0 ≤ (ji30)) = true := decide_eq_true c31
             clear c31
             by_cases c32 : (ji30) < (a0.size : Int)
             rotate_left
             ·rw [if_neg c32] at H
              exact ab H
             rw [if_pos c32] at H
             have c32b0 : decide ((ji30) < (a0.size : Int)) = true := decide_eq_true c32
             clear c32
             have H' := Aside0.mk H
             clear H
             have p28 : 0 ≤ (x4_2 : Int) := od
             have q28 : x4_2 < (a0.size : Int) := od
             have hx28 := bt_at a0 x4_2
             replace p28 := eq_true p28
             replace q28 := eq_true q28
             have p33 : 0 ≤ ((ji30) : Int) := od
             have q33 : (ji30) < (a0.size : Int) := od
             have hx33 := bt_at a0 (ji30)
             replace p33 := eq_true p33
             replace q33 := eq_true q33
             go_wp2
             go_meet
             case rel => exact ⟨_, (((bt a0 (ji30)) == 45)), (by first | rfl | (simp; done) | (simp only [← hji30] <;> (first | rfl | simp)) | (simp [*]; done)), H', ⟨by have := HJ1.out; have := HK2.out; have := HJ11.out; first | omega | exact Nat.le_refl _⟩, ⟨bl⟩⟩
          case rest =>
           clear HC24
           try clear c1
           try clear p1
           try clear q1
           try clear hx1
           try clear c2
           try clear p2
           try clear q2
           try clear hx2
           try clear c3
           try clear c3b0
           try clear c3b1
           try clear p3
           try clear q3
           try clear hx3
           try clear c4
           try clear c4b0
           try clear c4b1
           try clear c5
           try clear p5
           try clear q5
           try clear hx5
           try clear qi5
           try clear c6
           try clear p6
           try clear c8
           try clear c11
           try clear c11b0
           try clear c13
           try clear c13b0
           try clear c14
           try clear c14b0
           try clear p15
           try clear q15
           try clear hx15
           try clear c16
           try clear c17
           try clear c17b0
           try clear c18
           try clear c18b0
           try clear p19
           try clear q19
           try clear hx19
           try clear c21
           try clear p22
           try clear q22
           try clear hx22
           try clear c23
           try clear c23b0
           try clear c23b1
           try clear c25
           try clear c25b0
           try clear c25b1
           try clear c26
           try clear c26b0
           try clear c27
           try clear c27b0
           try clear p28
           try clear q28
           try clear hx28
           try clear c29
           try clear c29b0
           try clear c29b1
           try clear c31
           try clear c31b0
           try clear c32
           try clear c32b0
           try clear p33
           try clear q33
           try clear hx33
           try clear p1
           try clear p15
           try clear p19
           try clear p2
           try clear p22
           try clear p28
           try clear p33
           try clear p5
           try clear q1
           try clear q15
           try clear q19
           try clear q22
           try clear q28
           try clear q33
           try clear q5
           obtain ⟨kq, x61_23, rfl, HA, HJ23, HB⟩ := hcut
           cases kq with
           | zero => exact absurd HA.out (by simp [postriderref05_Domain.j3])
           | succ kj23 =>
            have H := HA.out
            clear HA
            simp only [postriderref05_Domain.j3] at H
            by_cases c34 : x61_23 = true
            ·subst c34
             replace H : (some 5) = some r := by rw [if_pos rfl] at H; exact H
             obtain rfl := Option.some.inj H
             go_wp2
             go_ret
             exact ⟨rf, bl⟩
            ·replace c34 := Bool.eq_false_iff.mpr c34
             subst c34
             replace H : (if (wrap64 (x5_2 - x4_2)) > 63 then (postriderref05_Domain.l0 kj23 a0 true (wrap64 (x5_2 + 1)) (wrap64 (x5_2 + 1))) else (postriderref05_Domain.l0 kj23 a0 x3_2 (wrap64 (x5_2 + 1)) (wrap64 (x5_2 + 1)))) = some r := by rw [if_neg (show ¬ (false = true) by decide)] at H; exact H
             by_cases c35 : (wrap64 (x5_2 - x4_2)) > 63
             ·rw [if_pos c35] at H
              have c35b0 : decide (63 < (wrap64 (x5_2 - x4_2))) = true := decide_eq_true c35
              clear c35
              have H' := Aside0.mk H
              clear H
              go_wp2
              go_roundg kj23
              case measure => have := HJ1.out; have := HK2.out; have := HJ11.out; have := HJ23.out; omega
              case rel => exact ⟨(true), (wrap64 (x5_2 + 1)), (wrap64 (x5_2 + 1)), rs, rs, rs, H', ⟨by have := HJ1.out; have := HK2.out; have := HJ11.out; have := HJ23.out; omega⟩, ⟨bl⟩⟩
             ·rw [if_neg c35] at H
              have c35b0 : decide (63 < (wrap64 (x5_2 - x4_2))) = false := decide_eq_false c35
              clear c35
              have H' := Aside0.mk H
              clear H
              go_wp2
              go_roundg kj23
              case measure => have := HJ1.out; have := HK2.out; have := HJ11.out; have := HJ23.out; omega
              case rel => exact ⟨(x3_2), (wrap64 (x5_2 + 1)), (wrap64 (x5_2 + 1)), rs, rs, rs, H', ⟨by have := HJ1.out; have := HK2.out; have := HJ11.out; have := HJ23.out; omega⟩, ⟨bl⟩⟩
      ·rw [if_neg c11] at H
       have c11b0 : decide (x5_2 ≤ (a0.size : Int)) = false := decide_eq_false c11
       clear c11
       by_cases c36 : x3_2 = true
       ·subst c36
        replace H : (some 3) = some r := by rw [if_pos rfl] at H; exact H
        obtain rfl := Option.some.inj H
        go_wp2
        go_ret
        exact ⟨rf, bl⟩
       ·replace c36 := Bool.eq_false_iff.mpr c36
        subst c36
        replace H : (some 0) = some r := by rw [if_neg (show ¬ (false = true) by decide)] at H; exact H
        obtain rfl := Option.some.inj H
        go_wp2
        go_ret
        exact ⟨rf, bl⟩

/-! ### postriderref05_May: function 26 -/
def postriderref05_May.f (k : Nat) (a0_0 : ByteArray) (a0_1 : ByteArray) : Option (Bool) := if (a0_0.size : Int) ≥ 1 then (if (a0_0.size : Int) ≤ 64 then ((postriderref04_Plain.f k a0_0).bind fun t156 => (if t156 = true then ((postriderref05_Domain.f k a0_1).bind fun t157 => (some (t157 == 0))) else (some false))) else (some false)) else (some false)
theorem postriderref05_May.mono : ∀ a0 a1 k, LeO (postriderref05_May.f k a0 a1) (postriderref05_May.f (k + 1) a0 a1) := by
 intro a0 a1 k
 unfold postriderref05_May.f
 repeat' first
   | (with_reducible first | exact postriderref04_Plain.mono _ _ | exact postriderref05_Domain.mono _ _ | exact LeO.refl _ | exact LeO.none _ | refine LeO.ite ?_ ?_ | refine LeO.bind ?_ (fun _ => ?_))
theorem postriderref05_May.calls (k : Nat) (a0_0 : ByteArray) (a0_1 : ByteArray) (r : Bool) (w : World) (h : postriderref05_May.f k a0_0 a0_1 = some r) :
  Calls Tryz.prog 26 #[.agg #[.string a0_0, .string a0_1]] w fun e w' => e = .returned (.bool r) ∧ Below w.heap.size w w' := by
 have hu29 := Tryz.underlying29
 have HB := Aside0.mk (Below.refl w.heap.size w)
 have H : (if (a0_0.size : Int) ≥ 1 then (if (a0_0.size : Int) ≤ 64 then ((postriderref04_Plain.f k a0_0).bind fun t156 => (if t156 = true then ((postriderref05_Domain.f k a0_1).bind fun t157 => (some (t157 == 0))) else (some false))) else (some false)) else (some false)) = some r := h
 clear h
 by_cases c2 : (a0_0.size : Int) ≥ 1
 ·rw [if_pos c2] at H
  have c2b0 : decide (1 ≤ (a0_0.size : Int)) = true := decide_eq_true c2
  have c2b1 : decide (1 ≤ a0_0.size) = true := decide_eq_true (by omega)
  clear c2
  by_cases c3 : (a0_0.size : Int) ≤ 64
  ·rw [if_pos c3] at H
   have c3b0 : decide ((a0_0.size : Int) ≤ 64) = true := decide_eq_true c3
   have c3b1 : decide (a0_0.size ≤ 64) = true := decide_eq_true (by omega)
   clear c3
   obtain ⟨t156, A40, H⟩ := Option.bind_eq_some_iff.mp H
   replace H : (if t156 = true then ((postriderref05_Domain.f k a0_1).bind fun t157 => (some (t157 == 0))) else (some false)) = some r := H
   have A4 := Aside0.mk A40
   clear A40
   by_cases c5 : t156 = true
   ·subst c5
    replace H : ((postriderref05_Domain.f k a0_1).bind fun t157 => (some (t157 == 0))) = some r := by rw [if_pos rfl] at H; exact H
    obtain ⟨t157, A60, H⟩ := Option.bind_eq_some_iff.mp H
    replace H : (some (t157 == 0)) = some r := H
    have A6 := Aside0.mk A60
    clear A60
    obtain rfl := Option.some.inj H
    go_enter Tryz.func26, Tryz.ntmps26
    go_wp2_with (first | ((with_reducible refine gate_dst (N := 1) rfl ?_); (try (refine gate_guard (by rfl) ?_; dsimp only)); refine box_event ?hg (N := 1) ?hd (cs := #[.string a0_0, .string a0_1]) (t := 29) ?hr ?_; (case hd => rfl); (case hg => rfl); (case hr => first | (go_simp; done) | (go_simp; rfl)); intro gb155 hg w7 hbox hb; have BK155 := Aside0.mk (hbox); have GW155 := Aside0.mk (gz hg : w.heap.size ≤ gb155); have GE155 := Aside0.mk (gz hg : w.heap.size ≤ gb155); replace HB := Aside0.mk (below_step bl hb); clear hb hbox hg; have hcz8_0 := cz BK155.out 0 (.string a0_0); have hcz8_1 := cz BK155.out 1 (.string a0_1); have hfz8_0 := blk_frozen BK155.out 0; have hfz8_1 := blk_frozen BK155.out 1) | (go_at_call 54; (with_reducible refine (postriderref04_Plain.calls k a0_0 true _ A4.out).mono ?_); rintro e w' ⟨rfl, ⟨nd, rfl⟩⟩) | (go_at_call 55; (with_reducible refine (postriderref05_Domain.calls k a0_1 t157 _ A6.out).mono ?_); rintro e w9 ⟨rfl, hb⟩; replace BK155 := Aside0.mk (kb BK155.out hb); replace HB := Aside0.mk (below_step bl hb); (try clear hb); (try clear hb2); (try clear hk); (try clear hi)))
    go_ret
    exact ⟨rf, bl⟩
   ·replace c5 := Bool.eq_false_iff.mpr c5
    subst c5
    replace H : (some false) = some r := by rw [if_neg (show ¬ (false = true) by decide)] at H; exact H
    obtain rfl := Option.some.inj H
    go_enter Tryz.func26, Tryz.ntmps26
    go_wp2_with (first | ((with_reducible refine gate_dst (N := 1) rfl ?_); (try (refine gate_guard (by rfl) ?_; dsimp only)); refine box_event ?hg (N := 1) ?hd (cs := #[.string a0_0, .string a0_1]) (t := 29) ?hr ?_; (case hd => rfl); (case hg => rfl); (case hr => first | (go_simp; done) | (go_simp; rfl)); intro gb155 hg w10 hbox hb; have BK155 := Aside0.mk (hbox); have GW155 := Aside0.mk (gz hg : w.heap.size ≤ gb155); have GE155 := Aside0.mk (gz hg : w.heap.size ≤ gb155); replace HB := Aside0.mk (below_step bl hb); clear hb hbox hg; have hcz11_0 := cz BK155.out 0 (.string a0_0); have hcz11_1 := cz BK155.out 1 (.string a0_1); have hfz11_0 := blk_frozen BK155.out 0; have hfz11_1 := blk_frozen BK155.out 1) | (go_at_call 54; (with_reducible refine (postriderref04_Plain.calls k a0_0 false _ A4.out).mono ?_); rintro e w' ⟨rfl, ⟨nd, rfl⟩⟩))
    go_ret
    exact ⟨rf, bl⟩
  ·rw [if_neg c3] at H
   have c3b0 : decide ((a0_0.size : Int) ≤ 64) = false := decide_eq_false c3
   have c3b1 : decide (a0_0.size ≤ 64) = false := decide_eq_false (by omega)
   clear c3
   obtain rfl := Option.some.inj H
   go_enter Tryz.func26, Tryz.ntmps26
   go_wp2_with (first | ((with_reducible refine gate_dst (N := 1) rfl ?_); (try (refine gate_guard (by rfl) ?_; dsimp only)); refine box_event ?hg (N := 1) ?hd (cs := #[.string a0_0, .string a0_1]) (t := 29) ?hr ?_; (case hd => rfl); (case hg => rfl); (case hr => first | (go_simp; done) | (go_simp; rfl)); intro gb155 hg w12 hbox hb; have BK155 := Aside0.mk (hbox); have GW155 := Aside0.mk (gz hg : w.heap.size ≤ gb155); have GE155 := Aside0.mk (gz hg : w.heap.size ≤ gb155); replace HB := Aside0.mk (below_step bl hb); clear hb hbox hg; have hcz13_0 := cz BK155.out 0 (.string a0_0); have hcz13_1 := cz BK155.out 1 (.string a0_1); have hfz13_0 := blk_frozen BK155.out 0; have hfz13_1 := blk_frozen BK155.out 1))
   go_ret
   exact ⟨rf, bl⟩
 ·rw [if_neg c2] at H
  have c2b0 : decide (1 ≤ (a0_0.size : Int)) = false := decide_eq_false c2
  have c2b1 : decide (1 ≤ a0_0.size) = false := decide_eq_false (by omega)
  clear c2
  obtain rfl := Option.some.inj H
  go_enter Tryz.func26, Tryz.ntmps26
  go_wp2_with (first | ((with_reducible refine gate_dst (N := 1) rfl ?_); (try (refine gate_guard (by rfl) ?_; dsimp only)); refine box_event ?hg (N := 1) ?hd (cs := #[.string a0_0, .string a0_1]) (t := 29) ?hr ?_; (case hd => rfl); (case hg => rfl); (case hr => first | (go_simp; done) | (go_simp; rfl)); intro gb155 hg w14 hbox hb; have BK155 := Aside0.mk (hbox); have GW155 := Aside0.mk (gz hg : w.heap.size ≤ gb155); have GE155 := Aside0.mk (gz hg : w.heap.size ≤ gb155); replace HB := Aside0.mk (below_step bl hb); clear hb hbox hg; have hcz15_0 := cz BK155.out 0 (.string a0_0); have hcz15_1 := cz BK155.out 1 (.string a0_1); have hfz15_0 := blk_frozen BK155.out 0; have hfz15_1 := blk_frozen BK155.out 1))
  go_ret
  exact ⟨rf, bl⟩

end Go.Proofs.YtgelfnjicglmbaaGreatDoor.Q
end
