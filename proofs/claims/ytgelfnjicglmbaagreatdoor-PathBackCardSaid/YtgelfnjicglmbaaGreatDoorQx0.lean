/- Walks of functions. -/
import Derived.Test.YtgelfnjicglmbaaGreatDoorProg
import Derived.Below
import Derived.Deep.Draws
import Derived.Deep.AppendLies
import Derived.Maps.AppendAt
import Derived.OwnWalk
import Derived.Laws.BytesArg
import Derived.Laws.MakeOwn
import Derived.Laws.OwnMore
import Derived.Deep.OwnRows
import Derived.Tactics
import Derived.Lib.ConvBytes
import Derived.Laws.Slices
import Derived.WalkKit
import Derived.KernelRfl
import Derived.RowKit3
import Derived.Deep.LoopGhost
import Derived.Deep.QuietTactic
import Derived.BigQuiet
import Derived.WideLaws
import Derived.Deep.DeepCutAuto
import Derived.Deep.CutBlock
import Derived.Deep.RegionHeld3
import Derived.Laws.Rows
import Derived.Lib.AppendStr
import Derived.ArgAppend
import Derived.Laws.IdiomCopy
import Derived.OrdersHeld
import Derived.Laws.BitsLemmas
import Derived.RowKit
import Derived.Laws.RangeString
import Derived.Laws.RangeAny
import Derived.LoopTactic
import Derived.Lib.Hide
import Derived.IntWalk
import Derived.Test.YtgelfnjicglmbaaGreatDoorG
import Derived.Test.YtgelfnjicglmbaaGreatDoorBR
import Derived.Test.YtgelfnjicglmbaaGreatDoorRS
import Derived.Test.YtgelfnjicglmbaaGreatDoorOP
import Derived.Test.YtgelfnjicglmbaaGreatDoorKB
import Derived.Test.YtgelfnjicglmbaaGreatDoorV
set_option linter.unusedSimpArgs false
set_option linter.unusedVariables false
open Go.RowKit Go.Proofs.YtgelfnjicglmbaaGreatDoorW.PrintWords Go.Proofs.YtgelfnjicglmbaaGreatDoorW.PrintLast Go.Proofs.YtgelfnjicglmbaaGreatDoorW.PrintMore
set_option maxHeartbeats 8000000
set_option maxRecDepth 100000
attribute [local go_sem] max2_int min2_int max_two min_two max_three min_three max_four min_four
section
namespace Go.Proofs.YtgelfnjicglmbaaGreatDoor.Q



def errW : Option Int → Value
  | none => .nilIface
  | some c => .iface 0 (.int .i64 c)
theorem errW_none : errW none = .nilIface := rfl
theorem errW_some (c : Int) : errW (some c) = .iface 0 (.int .i64 c) := rfl
theorem cz {w : World} {g T : Nat} {cs : Array Value} (h : w.heap[g]? = some (.cells cs T (0, 0))) (i : Nat) (v : Value) (e : cs[i]? = some v := by rfl) : w.cell? ⟨g, i, none⟩ = some v := (blk_cell h i).trans e
theorem dr {p : Prop} (h : p := by repeat (first | exact Drawn0.refl _ | apply Drawn0.step)) : p := h
theorem ab {p q : Prop} (h : q) (k : ¬ q := by simp) : p := absurd h k
theorem kf {p : Prop} (h : p := by kernel_rfl) : p := h
theorem rf {p : Prop} (h : p := by first | rfl | (simp [bneNil]; done) | (simp [errW_none, errW_some] <;> rfl) | (simp [*, errW_none, errW_some] <;> rfl)) : p := h

theorem info5 : (Tryz.prog.info? 5).map (fun i => (i.zero, i.size, i.bytes)) = some (some (.int .u8 0), 1, 1) := by kernel_rfl
theorem info9 : (Tryz.prog.info? 9).map (fun i => (i.zero, i.size, i.bytes)) = some (some (.string ⟨#[]⟩), 1, 16) := by kernel_rfl
theorem info26 : (Tryz.prog.info? 26).map (fun i => (i.zero, i.size, i.bytes)) = some (some (.agg #[(.bool false), (.bool false), (.slice none 0 0), (.string ⟨#[]⟩), (.string ⟨#[]⟩)]), 5, 64) := by kernel_rfl
-- the values' own types
def rd_L3 (xs : List (List ByteArray)) (i : Int) : (List ByteArray) := xs.getD i.toNat ([] : List ByteArray)
theorem at_L3 {w : World} {A : Option Addr} {n : Nat} {xs : List (List ByteArray)} (h : Kd.C (Kd.slice 9 Kd.string) w A n xs) (i : Int) (h0 : 0 ≤ i) (h1 : i < n) : ∃ ad A0 c0, A = some ad ∧ w.cell? (ad.add i.toNat) = some (.slice A0 (rd_L3 xs i).length c0) ∧ (rd_L3 xs i).length ≤ c0 ∧ Kd.string.C w A0 (rd_L3 xs i).length (rd_L3 xs i) := by
  obtain ⟨ad, c, e, _, hK, hc0⟩ := Kd.C_get h ([] : List ByteArray) i h0 h1
  have hc : ∀ j u, c[j]? = some u → w.cell? (ad.add (i.toNat * 1 + j)) = some u := hc0
  obtain ⟨A0, c0, rfl, l0, g0⟩ := hK
  exact ⟨ad, A0, c0, e, by have hq := hc 0 _ rfl; rwa [Nat.mul_one, Nat.add_zero] at hq, l0, g0⟩

/-! #### struct type 24 -/
structure S24 where
  f0 : ByteArray
  f1 : ByteArray
def z24 : S24 := ⟨(⟨#[]⟩ : ByteArray), (⟨#[]⟩ : ByteArray)⟩
def k24 : Kd S24 := Kd.iso (Kd.pair Kd.string Kd.string) (fun x : S24 => (x.f0, x.f1))
theorem k24_open {w : World} {x : S24} {cs : List Value} (h : k24.K w x cs) : cs = [.string x.f0, .string x.f1] := by
  obtain ⟨_, _, rfl, rfl, rfl⟩ := h
  exact rfl
theorem k24_openM {w : World} {base : Nat} {ok : Nat → Prop} {x : S24} {cs : List Value} (h : k24.M w base ok x cs) : cs = [.string x.f0, .string x.f1] := by
  obtain ⟨_, _, rfl, rfl, rfl⟩ := h
  exact rfl
theorem k24_mk (w : World) (x : S24)  : k24.K w x [.string x.f0, .string x.f1] := ⟨[.string x.f0], [.string x.f1], rfl, rfl, rfl⟩
theorem k24_mkM (w : World) (base : Nat) (ok : Nat → Prop) (x : S24)  : k24.M w base ok x [.string x.f0, .string x.f1] := ⟨[.string x.f0], [.string x.f1], rfl, rfl, rfl⟩
theorem k24_mkF (W : World) (ok : Nat → Prop) (x : S24) : Kd.FK k24 W ok x [.string x.f0, .string x.f1] := fun W2 _ => k24_mk W2 x
def rd_T24 (xs : List S24) (i : Int) : S24 := xs.getD i.toNat z24
theorem at_T24 {w : World} {A : Option Addr} {n : Nat} {xs : List S24} (h : Kd.C k24 w A n xs) (i : Int) (h0 : 0 ≤ i) (h1 : i < n) : ∃ ad , A = some ad ∧ w.cell? (ad.add (i.toNat * 2)) = some (.string (rd_T24 xs i).f0) ∧ w.cell? ⟨(ad.add (i.toNat * 2)).block, (ad.add (i.toNat * 2)).off + 1, none⟩ = some (.string (rd_T24 xs i).f1) := by
  obtain ⟨ad, c, e, _, hK, hc0⟩ := Kd.C_get h z24 i h0 h1
  have hc : ∀ j u, c[j]? = some u → w.cell? (ad.add (i.toNat * 2 + j)) = some u := hc0
  obtain rfl := k24_open hK
  exact ⟨ad, e, hc 0 _ rfl, by rw [← add_field _ _ 1 (by omega)]; exact hc 1 _ rfl⟩

/-! #### struct type 26 -/
structure S26 where
  f0 : Bool
  f1 : Bool
  f2 : (List ByteArray)
  f3 : S24
def z26 : S26 := ⟨false, false, ([] : List ByteArray), z24⟩
def k26 : Kd S26 := Kd.iso (Kd.pair Kd.bool (Kd.pair Kd.bool (Kd.pair (Kd.slice 9 Kd.string) k24))) (fun x : S26 => (x.f0, x.f1, x.f2, x.f3))
theorem k26_open {w : World} {x : S26} {cs : List Value} (h : k26.K w x cs) : ∃ A2 c2, cs = [.bool x.f0, .bool x.f1, .slice A2 x.f2.length c2, .string x.f3.f0, .string x.f3.f1] ∧ x.f2.length ≤ c2 ∧ Kd.string.C w A2 x.f2.length x.f2 := by
  obtain ⟨_, _, rfl, rfl, ⟨_, _, rfl, rfl, ⟨_, _, rfl, ⟨A2, c2, rfl, l2, g2⟩, s3⟩⟩⟩ := h
  obtain rfl := k24_open s3
  exact ⟨A2, c2, rfl, l2, g2⟩
theorem k26_openM {w : World} {base : Nat} {ok : Nat → Prop} {x : S26} {cs : List Value} (h : k26.M w base ok x cs) : ∃ v2, cs = [.bool x.f0, .bool x.f1, v2, .string x.f3.f0, .string x.f3.f1] ∧ Kd.string.R 9 w base ok v2 x.f2 := by
  obtain ⟨_, _, rfl, rfl, ⟨_, _, rfl, rfl, ⟨_, _, rfl, ⟨v2, rfl, g2⟩, s3⟩⟩⟩ := h
  obtain rfl := k24_openM s3
  exact ⟨v2, rfl, g2⟩
theorem k26_mk (w : World) (x : S26) {A2 : Option Addr} {c2 : Nat} (l2 : x.f2.length ≤ c2) (g2 : Kd.string.C w A2 x.f2.length x.f2) : k26.K w x [.bool x.f0, .bool x.f1, .slice A2 x.f2.length c2, .string x.f3.f0, .string x.f3.f1] := ⟨[.bool x.f0], [.bool x.f1, .slice A2 x.f2.length c2, .string x.f3.f0, .string x.f3.f1], rfl, rfl, ⟨[.bool x.f1], [.slice A2 x.f2.length c2, .string x.f3.f0, .string x.f3.f1], rfl, rfl, ⟨[.slice A2 x.f2.length c2], [.string x.f3.f0, .string x.f3.f1], rfl, ⟨A2, c2, rfl, l2, g2⟩, (k24_mk w x.f3 )⟩⟩⟩
theorem k26_mkM (w : World) (base : Nat) (ok : Nat → Prop) (x : S26) {v2 : Value} (g2 : Kd.string.R 9 w base ok v2 x.f2) : k26.M w base ok x [.bool x.f0, .bool x.f1, v2, .string x.f3.f0, .string x.f3.f1] := ⟨[.bool x.f0], [.bool x.f1, v2, .string x.f3.f0, .string x.f3.f1], rfl, rfl, ⟨[.bool x.f1], [v2, .string x.f3.f0, .string x.f3.f1], rfl, rfl, ⟨[v2], [.string x.f3.f0, .string x.f3.f1], rfl, ⟨v2, rfl, g2⟩, (k24_mkM w base ok x.f3 )⟩⟩⟩
theorem k26_openF {W : World} {ok : Nat → Prop} {x : S26} {cs : List Value} (h : Kd.FK k26 W ok x cs) : ∃ A2 c2, cs = [.bool x.f0, .bool x.f1, .slice A2 x.f2.length c2, .string x.f3.f0, .string x.f3.f1] ∧ x.f2.length ≤ c2 ∧ Kd.F Kd.string W ok A2 x.f2.length x.f2 := by
  obtain ⟨A2, c2, rfl, l2, _⟩ := k26_open (Kd.FK_now h)
  exact ⟨A2, c2, rfl, l2, (fun W' hW => by obtain ⟨A2_, c2_, he, l2_, g2_⟩ := k26_open (h W' hW); injection (Option.some.inj (show some (Value.slice A2 x.f2.length c2) = some (Value.slice A2_ x.f2.length c2_) from congrArg (fun l => l[2]?) he)) with ha_ _ _; rw [ha_]; exact g2_)⟩
theorem k26_mkF (W : World) (ok : Nat → Prop) (x : S26) {A2 : Option Addr} {c2 : Nat} (l2 : x.f2.length ≤ c2) (g2 : Kd.F Kd.string W ok A2 x.f2.length x.f2) : Kd.FK k26 W ok x [.bool x.f0, .bool x.f1, .slice A2 x.f2.length c2, .string x.f3.f0, .string x.f3.f1] := fun W2 hW => k26_mk W2 x l2 (g2 W2 hW)
def rd_T26 (xs : List S26) (i : Int) : S26 := xs.getD i.toNat z26
theorem at_T26 {w : World} {A : Option Addr} {n : Nat} {xs : List S26} (h : Kd.C k26 w A n xs) (i : Int) (h0 : 0 ≤ i) (h1 : i < n) : ∃ ad A2 c2, A = some ad ∧ w.cell? (ad.add (i.toNat * 5)) = some (.bool (rd_T26 xs i).f0) ∧ w.cell? ⟨(ad.add (i.toNat * 5)).block, (ad.add (i.toNat * 5)).off + 1, none⟩ = some (.bool (rd_T26 xs i).f1) ∧ w.cell? ⟨(ad.add (i.toNat * 5)).block, (ad.add (i.toNat * 5)).off + 2, none⟩ = some (.slice A2 (rd_T26 xs i).f2.length c2) ∧ w.cell? ⟨(ad.add (i.toNat * 5)).block, (ad.add (i.toNat * 5)).off + 3, none⟩ = some (.string (rd_T26 xs i).f3.f0) ∧ w.cell? ⟨(ad.add (i.toNat * 5)).block, (ad.add (i.toNat * 5)).off + 4, none⟩ = some (.string (rd_T26 xs i).f3.f1) ∧ (rd_T26 xs i).f2.length ≤ c2 ∧ Kd.string.C w A2 (rd_T26 xs i).f2.length (rd_T26 xs i).f2 := by
  obtain ⟨ad, c, e, _, hK, hc0⟩ := Kd.C_get h z26 i h0 h1
  have hc : ∀ j u, c[j]? = some u → w.cell? (ad.add (i.toNat * 5 + j)) = some u := hc0
  obtain ⟨A2, c2, rfl, l2, g2⟩ := k26_open hK
  exact ⟨ad, A2, c2, e, hc 0 _ rfl, by rw [← add_field _ _ 1 (by omega)]; exact hc 1 _ rfl, by rw [← add_field _ _ 2 (by omega)]; exact hc 2 _ rfl, by rw [← add_field _ _ 3 (by omega)]; exact hc 3 _ rfl, by rw [← add_field _ _ 4 (by omega)]; exact hc 4 _ rfl, l2, g2⟩

end Go.Proofs.YtgelfnjicglmbaaGreatDoor.Q
end
section
namespace Go.Proofs.YtgelfnjicglmbaaGreatDoor.Q

/-! ### text_Plain: function 28 (by hand) -/
def plainC (c : UInt8) : Bool := decide (32 ≤ c.toNat) && decide (c.toNat ≤ 126)
def plainB (s : ByteArray) : Bool := s.data.toList.all plainC
def text_Plain.f (a0 : ByteArray) : Option Bool := some (plainB a0)
theorem plain_step (s : ByteArray) (pos : Nat) (h : pos < s.size) : (s.data.toList.take (pos + 1)).all plainC = ((s.data.toList.take pos).all plainC && plainC (s[pos]'h)) := by
  rw [List.take_succ_eq_append_getElem (by simpa using h), List.all_append]
  simp
  rfl
theorem plain_at (s : ByteArray) (pos : Nat) (h : pos < s.size) (hb : ¬ (32 ≤ (s[pos]'h).toNat ∧ (s[pos]'h).toNat ≤ 126)) : plainB s = false := by
  unfold plainB
  rw [Bool.eq_false_iff]
  intro ha
  rw [List.all_eq_true] at ha
  have := ha (s[pos]'h) (by
    have h' : pos < s.data.toList.length := by simpa using h
    have e : s.data.toList[pos]'h' = s[pos]'h := by simp; rfl
    rw [← e]; exact List.getElem_mem h')
  simp [plainC] at this
  exact hb ⟨by omega, by omega⟩
theorem text_Plain.calls (a0 : ByteArray) (r : Bool) (w : World) (h : text_Plain.f a0 = some r) :
    Calls Tryz.prog 28 #[.string a0] w fun e w' => e = .returned (.bool r) ∧ Below w.heap.size w w' := by
  have hr := Option.some.inj h
  clear h
  subst hr
  go_enter Tryz.func28, Tryz.ntmps28
  go_wp2
  go_loopw [] (fun w' => ∃ pos : Nat, w' = w.iter a0 pos ∧ pos ≤ a0.size ∧ (a0.data.toList.take pos).all plainC = true) (fun w' => a0.size - w'.iterPos w.heap.size)
  case atStart => exact ⟨0, rfl, Nat.zero_le _, rfl⟩
  case round =>
    obtain ⟨pos, rfl, hle, hall⟩ := hrel
    have Hall := Lib.hid hall
    clear hall
    by_cases hp : pos < a0.size
    · have hnx : ∀ ty, (Instr.next (.pointer (some ⟨w.heap.size, 0, none⟩)) true ty).run Tryz.prog (w.iter a0 pos) = _ := fun ty => run_next_any w a0 pos ty hp
      by_cases ha : (a0[pos]'hp).toNat < 128
      · have hd := decode_ascii a0 pos hp ha
        rw [hd] at hnx
        clear hd
        obtain ⟨c, hc⟩ : ∃ c : Nat, c = (a0[pos]'hp).toNat := ⟨_, rfl⟩
        rw [← hc] at hnx ha
        have Hc := Lib.hid hc
        clear hc
        by_cases h1 : 126 < (c : Int)
        · have hfin : plainB a0 = false := plain_at a0 pos hp (by have := Hc.out; omega)
          have Hfin := Lib.hid hfin
          clear hfin
          have hb : decide (126 < (c : Int)) = true := decide_eq_true h1
          go_wp2
          go_ret
          rw [Hfin.out]
          exact ⟨rfl, below_alloc (Below.refl _ _) _⟩
        · have hb : decide (126 < (c : Int)) = false := decide_eq_false h1
          by_cases h2 : 32 ≤ (c : Int)
          · have hb2 : decide (32 ≤ (c : Int)) = true := decide_eq_true h2
            have hb3 : decide ((c : Int) ≤ 126) = true := decide_eq_true (by omega)
            have hs := plain_step a0 pos hp
            rw [Hall.out] at hs
            have Hs := Lib.hid hs
            clear hs
            go_wp2
            go_roundw
            case rel =>
              refine ⟨pos + 1, rfl, hp, ?_⟩
              rw [Hs.out]
              have := Hc.out
              simp [plainC]
              omega
            case measure => simp; omega
          · have hfin : plainB a0 = false := plain_at a0 pos hp (by have := Hc.out; omega)
            have Hfin := Lib.hid hfin
            clear hfin
            have hb2 : decide (32 ≤ (c : Int)) = false := decide_eq_false h2
            go_wp2
            go_ret
            rw [Hfin.out]
            exact ⟨rfl, below_alloc (Below.refl _ _) _⟩
      · have hd := decode_high a0 pos hp (by omega)
        obtain ⟨c, hc⟩ : ∃ c : Nat × Nat, c = Utf8.decode a0 pos := ⟨_, rfl⟩
        rw [← hc] at hnx hd
        obtain ⟨c, n⟩ := c
        simp only at hnx hd
        clear hc
        have hfin : plainB a0 = false := plain_at a0 pos hp (by omega)
        have Hfin := Lib.hid hfin
        clear hfin
        have hb : decide (126 < (c : Int)) = true := decide_eq_true (by omega)
        go_wp2
        go_ret
        rw [Hfin.out]
        exact ⟨rfl, below_alloc (Below.refl _ _) _⟩
    · have hnx : ∀ ty, (Instr.next (.pointer (some ⟨w.heap.size, 0, none⟩)) true ty).run Tryz.prog (w.iter a0 pos) = _ := fun ty => run_next_end w a0 pos ty hp
      go_wp2
      go_ret
      have e : pos = a0.size := by omega
      subst e
      have := Hall.out
      rw [List.take_of_length_le (by simp)] at this
      rw [show plainB a0 = true from this]
      exact ⟨rfl, below_alloc (Below.refl _ _) _⟩


/-! ### stringslite_HasPrefix: function 68 -/
def stringslite_HasPrefix.f (a0 : ByteArray) (a1 : ByteArray) : Option (Bool) := if (a0.size : Int) ≥ (a1.size : Int) then (if 0 ≤ (a1.size : Int) then (if (a1.size : Int) ≤ (a0.size : Int) then (some ((a0.extract 0 ((a1.size : Int) : Int).toNat).toList == a1.toList)) else (none)) else (none)) else (some false)
theorem stringslite_HasPrefix.calls (a0 : ByteArray) (a1 : ByteArray) (r : Bool) (w : World) (h : stringslite_HasPrefix.f a0 a1 = some r) :
  Calls Tryz.prog 68 #[.string a0, .string a1] w fun e w' => e = .returned (.bool r) ∧ Drawn0 w w' := by
 have H : (if (a0.size : Int) ≥ (a1.size : Int) then (if 0 ≤ (a1.size : Int) then (if (a1.size : Int) ≤ (a0.size : Int) then (some ((a0.extract 0 ((a1.size : Int) : Int).toNat).toList == a1.toList)) else (none)) else (none)) else (some false)) = some r := h
 clear h
 by_cases c3 : (a0.size : Int) ≥ (a1.size : Int)
 ·rw [if_pos c3] at H
  have c3b0 : decide ((a1.size : Int) ≤ (a0.size : Int)) = true := decide_eq_true c3
  have c3b1 : decide (a1.size ≤ a0.size) = true := decide_eq_true (Int.ofNat_le.mp c3)
  clear c3
  by_cases c4 : 0 ≤ (a1.size : Int)
  rotate_left
  ·rw [if_neg c4] at H
   exact ab H
  rw [if_pos c4] at H
  have c4b0 := eq_true c4
  have c4b1 : decide (0 ≤ (a1.size : Int)) = true := decide_eq_true c4
  clear c4
  by_cases c5 : (a1.size : Int) ≤ (a0.size : Int)
  rotate_left
  ·rw [if_neg c5] at H
   exact ab H
  rw [if_pos c5] at H
  have c5b0 := eq_true c5
  have c5b1 : decide ((a1.size : Int) ≤ (a0.size : Int)) = true := decide_eq_true c5
  clear c5
  obtain rfl := Option.some.inj H
  go_enter Tryz.func68, Tryz.ntmps68
  go_wp2
  go_ret
  exact ⟨by first | rfl | (simp [bneNil]; done) | (simp; done) | (simp [*]; done), dr⟩
 ·rw [if_neg c3] at H
  have c3b0 : decide ((a1.size : Int) ≤ (a0.size : Int)) = false := decide_eq_false c3
  have c3b1 : decide (a1.size ≤ a0.size) = false := decide_eq_false (fun h => c3 (Int.ofNat_le.mpr h))
  clear c3
  obtain rfl := Option.some.inj H
  go_enter Tryz.func68, Tryz.ntmps68
  go_wp2
  go_ret
  exact ⟨by first | rfl | (simp [bneNil]; done) | (simp; done) | (simp [*]; done), dr⟩

/-! ### stringslite_CutPrefix: function 60 -/
def stringslite_CutPrefix.f (a0 : ByteArray) (a1 : ByteArray) : Option (ByteArray × Bool) := (stringslite_HasPrefix.f a0 a1).bind fun t101 => (if t101 = true then (if 0 ≤ (a1.size : Int) then (if (a1.size : Int) ≤ (a0.size : Int) then (some (a0.extract ((a1.size : Int) : Int).toNat a0.size, true)) else (none)) else (none)) else (some (a0, false)))
theorem stringslite_CutPrefix.calls (a0 : ByteArray) (a1 : ByteArray) (r1 : ByteArray) (r2 : Bool) (w : World) (h : stringslite_CutPrefix.f a0 a1 = some (r1, r2)) :
  Calls Tryz.prog 60 #[.string a0, .string a1] w fun e w' => e = .returned (.tuple #[.string r1, .bool r2]) ∧ Drawn0 w w' := by
 have H : ((stringslite_HasPrefix.f a0 a1).bind fun t101 => (if t101 = true then (if 0 ≤ (a1.size : Int) then (if (a1.size : Int) ≤ (a0.size : Int) then (some (a0.extract ((a1.size : Int) : Int).toNat a0.size, true)) else (none)) else (none)) else (some (a0, false)))) = some (r1, r2) := h
 clear h
 obtain ⟨t101, A30, H⟩ := Option.bind_eq_some_iff.mp H
 replace H : (if t101 = true then (if 0 ≤ (a1.size : Int) then (if (a1.size : Int) ≤ (a0.size : Int) then (some (a0.extract ((a1.size : Int) : Int).toNat a0.size, true)) else (none)) else (none)) else (some (a0, false))) = some (r1, r2) := H
 have A3 := Aside0.mk A30
 clear A30
 by_cases c4 : t101 = true
 ·subst c4
  replace H : (if 0 ≤ (a1.size : Int) then (if (a1.size : Int) ≤ (a0.size : Int) then (some (a0.extract ((a1.size : Int) : Int).toNat a0.size, true)) else (none)) else (none)) = some (r1, r2) := by rw [if_pos rfl] at H; exact H
  by_cases c5 : 0 ≤ (a1.size : Int)
  rotate_left
  ·rw [if_neg c5] at H
   exact ab H
  rw [if_pos c5] at H
  have c5b0 := eq_true c5
  have c5b1 : decide (0 ≤ (a1.size : Int)) = true := decide_eq_true c5
  clear c5
  by_cases c6 : (a1.size : Int) ≤ (a0.size : Int)
  rotate_left
  ·rw [if_neg c6] at H
   exact ab H
  rw [if_pos c6] at H
  have c6b0 := eq_true c6
  have c6b1 : decide ((a1.size : Int) ≤ (a0.size : Int)) = true := decide_eq_true c6
  clear c6
  simp only [Option.some.injEq, Prod.mk.injEq] at H
  obtain ⟨rfl, rfl⟩ := H
  go_enter Tryz.func60, Tryz.ntmps60
  go_wp2_with (first | ((with_reducible refine gate_callee (f := 68) rfl ?_); refine goesL_ (some 8) rfl rfl Tryz.func68 kf rfl #[.string a0, .string a1] rfl ml ?_; (with_reducible refine (stringslite_HasPrefix.calls a0 a1 true _ A3.out).mono ?_); rintro e w' ⟨rfl, ⟨nd, rfl⟩⟩; refine ⟨_, rfl, ?_⟩))
  go_ret2
  exact ⟨by first | rfl | (simp [bneNil]; done) | (simp; done) | (simp [*]; done), dr⟩
 ·replace c4 := Bool.eq_false_iff.mpr c4
  subst c4
  replace H : (some (a0, false)) = some (r1, r2) := by rw [if_neg (show ¬ (false = true) by decide)] at H; exact H
  simp only [Option.some.injEq, Prod.mk.injEq] at H
  obtain ⟨rfl, rfl⟩ := H
  go_enter Tryz.func60, Tryz.ntmps60
  go_wp2_with (first | ((with_reducible refine gate_callee (f := 68) rfl ?_); refine goesL_ (some 8) rfl rfl Tryz.func68 kf rfl #[.string a0, .string a1] rfl ml ?_; (with_reducible refine (stringslite_HasPrefix.calls a0 a1 false _ A3.out).mono ?_); rintro e w' ⟨rfl, ⟨nd, rfl⟩⟩; refine ⟨_, rfl, ?_⟩))
  go_ret2
  exact ⟨by first | rfl | (simp [bneNil]; done) | (simp; done) | (simp [*]; done), dr⟩

/-! ### strings_CutPrefix: function 30 -/
def strings_CutPrefix.f (a0 : ByteArray) (a1 : ByteArray) : Option (ByteArray × Bool) := (stringslite_CutPrefix.f a0 a1).bind fun bt102 => (some (bt102.1, bt102.2))
theorem strings_CutPrefix.calls (a0 : ByteArray) (a1 : ByteArray) (r1 : ByteArray) (r2 : Bool) (w : World) (h : strings_CutPrefix.f a0 a1 = some (r1, r2)) :
  Calls Tryz.prog 30 #[.string a0, .string a1] w fun e w' => e = .returned (.tuple #[.string r1, .bool r2]) ∧ Drawn0 w w' := by
 have H : ((stringslite_CutPrefix.f a0 a1).bind fun bt102 => (some (bt102.1, bt102.2))) = some (r1, r2) := h
 clear h
 obtain ⟨⟨t102, t103⟩, A30, H⟩ := Option.bind_eq_some_iff.mp H
 replace H : (some (t102, t103)) = some (r1, r2) := H
 have A3 := Aside0.mk A30
 clear A30
 simp only [Option.some.injEq, Prod.mk.injEq] at H
 obtain ⟨rfl, rfl⟩ := H
 go_enter Tryz.func30, Tryz.ntmps30
 go_wp2_with (first | ((with_reducible refine gate_callee (f := 60) rfl ?_); refine goesL_ (some 8) rfl rfl Tryz.func60 kf rfl #[.string a0, .string a1] rfl ml ?_; (with_reducible refine (stringslite_CutPrefix.calls a0 a1 t102 t103 _ A3.out).mono ?_); rintro e w' ⟨rfl, ⟨nd, rfl⟩⟩; refine ⟨_, rfl, ?_⟩))
 go_ret2
 exact ⟨by first | rfl | (simp [bneNil]; done) | (simp; done) | (simp [*]; done), dr⟩

/-! ### strings_Split: function 87 (by hand) -/
def strings_Split.f (a0 a1 : ByteArray) : Option (List ByteArray) := if a0.size < 4294967281 ∧ 1 ≤ a1.size then some (Lib.splitB a1 0 (Lib.countB a0 a1) a0) else none
theorem strings_Split.calls (a0 a1 : ByteArray) (r : List ByteArray) (w : World) (hG : Glob w) (h : strings_Split.f a0 a1 = some r) :
    Calls Tryz.prog 87 #[.string a0, .string a1] w fun e w' => ∃ v0_ : Value, e = .returned (v0_) ∧ Kd.R Kd.string 9 w' w.heap.size (fun _ => True) v0_ r ∧ Below w.heap.size w w' := by
  unfold strings_Split.f at h
  split at h
  · rename_i hs
    obtain rfl := Option.some.inj h
    obtain ⟨m, hm⟩ := hG.mx
    refine (Tryz.strings_Split a0 a1 m w hs.1 hm hs.2).mono ?_
    rintro e w' ⟨rfl, rfl⟩
    have hl := Lib.splitB_all a1 hs.2 0 _ a0 rfl
    have hc := Lib.countB_le a1 hs.2 a0.size a0 (Nat.le_refl _)
    have ho := own_lit_of (enc := Value.string) w w.heap.size 9 (Lib.splitB a1 0 (Lib.countB a0 a1) a0) (Nat.le_refl _) (by rw [hl]; omega)
    refine ⟨_, rfl, Kd.R_of_own ?_ (fun _ _ => trivial), (Below.refl _ _).alloc (Nat.le_refl _) _⟩
    rw [hl] at ho ⊢
    exact ho
  · cases h


/-! ### strings_Trim: function 114 (by hand) -/
def strings_Trim.f (a0 a1 : ByteArray) : Option ByteArray := if a0.size ≤ 9223372036854775807 ∧ a1.size < 4294967281 ∧ (a1.data.toList.all fun b => decide (b.toNat < 128)) = true then some ⟨(Lib.trimS a0.data.toList a1.data.toList).toArray⟩ else none
theorem strings_Trim.calls (a0 a1 : ByteArray) (r : ByteArray) (w : World) (h : strings_Trim.f a0 a1 = some r) :
    Calls Tryz.prog 114 #[.string a0, .string a1] w fun e w' => e = .returned (.string r) ∧ Below w.heap.size w w' := by
  unfold strings_Trim.f at h
  by_cases hc : a0.size ≤ 9223372036854775807 ∧ a1.size < 4294967281 ∧ (a1.data.toList.all fun b => decide (b.toNat < 128)) = true
  · rw [if_pos hc] at h
    obtain rfl := Option.some.inj h
    refine Any.strings_Trim_laid Tryz.lays160 kf a0 a1 w hc.1 hc.2.1 (fun j b hj => ?_)
    have := List.all_eq_true.1 hc.2.2 b (List.mem_of_getElem? hj)
    simpa using this
  · rw [if_neg hc] at h; cases h


/-! ### text_Number: function 112 (by hand) -/
def digC (c : UInt8) : Bool := decide (48 ≤ c.toNat) && decide (c.toNat ≤ 57)
def numL (l : List UInt8) : Int := l.foldl (fun n c => 10 * n + ((c.toNat : Int) - 48)) 0
def numOK (s : ByteArray) (d : Int) : Bool := !s.data.toList.isEmpty && decide ((s.size : Int) ≤ max 1 (min d 15)) && s.data.toList.all digC
def text_Number.f (a0 : ByteArray) (a1 : Int) : Option (Int × Int) := if a0.size < 70368744177000 then (if numOK a0 a1 = true then some (numL a0.data.toList, 0) else some (0, 5)) else none
theorem numL_snoc (l : List UInt8) (c : UInt8) : numL (l ++ [c]) = 10 * numL l + ((c.toNat : Int) - 48) := by simp [numL]
theorem numL_bd : ∀ (n : Nat) (l : List UInt8), l.length = n → l.all digC = true → 0 ≤ numL l ∧ numL l < 10 ^ n := by
  intro n
  induction n with
  | zero => intro l h _; obtain rfl := List.eq_nil_of_length_eq_zero h; simp [numL]
  | succ n ih =>
    intro l h ha
    obtain ⟨i, c, rfl⟩ : ∃ i c, l = i ++ [c] := by
      have hne : l ≠ [] := by intro e; rw [e] at h; simp at h
      exact ⟨l.dropLast, l.getLast hne, (List.dropLast_concat_getLast hne).symm⟩
    simp at h
    rw [List.all_append, Bool.and_eq_true] at ha
    have := ih i h ha.1
    have hc : 48 ≤ c.toNat ∧ c.toNat ≤ 57 := by simpa [digC] using ha.2
    rw [numL_snoc, Int.pow_succ]
    omega
theorem dropW_nil {p : UInt8 → Bool} : ∀ {l : List UInt8}, l.dropWhile p = [] ↔ ∀ x ∈ l, p x = true
  | [] => by simp
  | a :: l => by
    by_cases h : p a = true
    · simp [List.dropWhile_cons, h, dropW_nil (l := l)]
    · simp [List.dropWhile_cons, h]
theorem trim_nil (p : UInt8 → Bool) (l : List UInt8) : ((l.reverse.dropWhile p).reverse.dropWhile p = []) ↔ l.all p = true := by
  constructor
  · intro h
    have h1 : ∀ x ∈ (l.reverse.dropWhile p).reverse, p x = true := by simpa using dropW_nil.1 h
    have h2 : l.reverse.dropWhile p = [] := by
      cases hd : l.reverse.dropWhile p with
      | nil => rfl
      | cons a t =>
        have ha := h1 a (by rw [hd]; simp)
        have := List.head?_dropWhile_not p l.reverse
        rw [hd] at this
        simp [ha] at this
    rw [List.all_eq_true]
    intro x hx
    have := dropW_nil.1 h2 x (by simpa using hx)
    exact this
  · intro h
    have : l.reverse.dropWhile p = [] := dropW_nil.2 (fun x hx => List.all_eq_true.1 h x (by simpa using hx))
    rw [this]; rfl
theorem dig_has (c : UInt8) : [48, 49, 50, 51, 52, 53, 54, 55, 56, 57].contains c = digC c := by
  have : ∀ n, n < 256 → [48, 49, 50, 51, 52, 53, 54, 55, 56, 57].contains (UInt8.ofNat n) = digC (UInt8.ofNat n) := by decide +kernel
  have h := this c.toNat (UInt8.toNat_lt c)
  rwa [UInt8.ofNat_toNat] at h
theorem trim_digits (s : ByteArray) : Lib.trimS s.data.toList [48, 49, 50, 51, 52, 53, 54, 55, 56, 57] = [] ↔ s.data.toList.all digC = true := by
  unfold Lib.trimS Lib.trimLeftS Lib.trimRightS
  simp only [dig_has]
  exact trim_nil digC _
def numTrim (s : ByteArray) : ByteArray := ⟨(Lib.trimS s.data.toList [48, 49, 50, 51, 52, 53, 54, 55, 56, 57]).toArray⟩
theorem numTrim_nil (s : ByteArray) : (numTrim s).toList = [] ↔ s.data.toList.all digC = true := by
  rw [ByteArray.toList_eq, ← trim_digits]; simp [numTrim]
theorem num_take (s : ByteArray) (k : Nat) (h : k < s.size) : numL (s.data.toList.take (k + 1)) = 10 * numL (s.data.toList.take k) + (((s[k]'h).toNat : Int) - 48) := by
  rw [List.take_succ_eq_append_getElem (by simpa using h), numL_snoc]; rfl
theorem dig_at (s : ByteArray) (ha : s.data.toList.all digC = true) (k : Nat) (h : k < s.size) : 48 ≤ (s[k]'h).toNat ∧ (s[k]'h).toNat ≤ 57 := by
  have h' : k < s.data.toList.length := by simpa using h
  have e : s.data.toList[k]'h' = s[k]'h := by simp; rfl
  have := List.all_eq_true.1 ha (s.data.toList[k]'h') (List.getElem_mem h')
  rw [e] at this
  simpa [digC] using this
theorem bytes_cell_at3 {W w1 : World} {g e : Nat} {s : ByteArray} {C : Array Value} {fz : Nat × Nat} (h : W.heap[g]? = some (.cells C e fz)) (hC : C = Lib.bytesCells w1 e s) (j : Nat) (hj : j < s.size) : W.cell? ⟨g, j, none⟩ = some (.int .u8 ((s[j]'hj).toNat : Nat)) := by
  subst hC
  simp [World.cell?, h, Lib.bytesCells, Array.getElem?_append, hj]
  rfl
theorem text_Number.calls (a0 : ByteArray) (a1 r1 r2 : Int) (w : World) (h : text_Number.f a0 a1 = some (r1, r2)) :
    Calls Tryz.prog 112 #[.string a0, .int .i64 a1] w fun e w' => e = .returned (.tuple #[.int .i64 r1, .int .i64 r2]) ∧ Below w.heap.size w w' := by
  unfold text_Number.f at h
  by_cases hsz : a0.size < 70368744177000
  · rw [if_pos hsz] at h
    obtain ⟨m1, hm1⟩ : ∃ m, (if 15 < a1 then 15 else a1) = m := ⟨_, rfl⟩
    obtain ⟨m2, hm2⟩ : ∃ m, (if 1 < m1 then m1 else 1) = m := ⟨_, rfl⟩
    have hmm : max 1 (min a1 15) = m2 := by split at hm1 <;> split at hm2 <;> omega
    have hm15 : m2 ≤ 15 := by split at hm1 <;> split at hm2 <;> omega
    by_cases he : a0.toList = ([] : List UInt8)
    · have hf : numOK a0 a1 = false := by unfold numOK; rw [← ByteArray.toList_eq, he]; rfl
      rw [hf] at h
      simp only [Bool.false_eq_true, if_false, Option.some.injEq, Prod.mk.injEq] at h
      obtain ⟨rfl, rfl⟩ := h
      have hb : (a0.toList == ([] : List UInt8)) = true := beq_iff_eq.mpr he
      have hb3 : a0.toList.isEmpty = true := by rw [he]; rfl
      clear hm1 hm2 hmm hf he
      go_enter Tryz.func112, Tryz.ntmps112
      go_wp2
      go_ret2
      exact ⟨rfl, Below.refl _ _⟩
    · have hb : (a0.toList == ([] : List UInt8)) = false := beq_eq_false_iff_ne.mpr he
      have hb3 : a0.toList.isEmpty = false := by cases h : a0.toList <;> simp_all
      have hb4 : a0.data.toList.isEmpty = false := by rw [← ByteArray.toList_eq]; exact hb3
      clear he
      by_cases hl : m2 < (a0.size : Int)
      · have hf : numOK a0 a1 = false := by
          unfold numOK; rw [hmm, decide_eq_false (by omega)]; simp
        rw [hf] at h
        simp only [Bool.false_eq_true, if_false, Option.some.injEq, Prod.mk.injEq] at h
        obtain ⟨rfl, rfl⟩ := h
        have hlb : decide (m2 < (a0.size : Int)) = true := decide_eq_true hl
        clear hmm hf hb4
        go_enter Tryz.func112, Tryz.ntmps112
        go_wp2
        go_ret2
        exact ⟨rfl, Below.refl _ _⟩
      · have hlb : decide (m2 < (a0.size : Int)) = false := decide_eq_false hl
        have hlen : a0.size ≤ 15 := by omega
        have hT : strings_Trim.f a0 ⟨#[48, 49, 50, 51, 52, 53, 54, 55, 56, 57]⟩ = some (numTrim a0) := by
          unfold strings_Trim.f; rw [if_pos ⟨by omega, by decide, by decide⟩]; rfl
        have HT := Lib.hid hT
        clear hT
        have hiff := numTrim_nil a0
        obtain ⟨tr, htr⟩ : ∃ tr, tr = numTrim a0 := ⟨_, rfl⟩
        rw [← htr] at HT hiff
        clear htr
        by_cases ha : a0.data.toList.all digC = true
        · have hf : numOK a0 a1 = true := by
            unfold numOK; rw [hmm, decide_eq_true (by omega), hb4, ha]; rfl
          rw [if_pos hf] at h
          simp only [Option.some.injEq, Prod.mk.injEq] at h
          obtain ⟨rfl, rfl⟩ := h
          have htn := hiff.2 ha
          have t1 : (tr.toList == ([] : List UInt8)) = true := beq_iff_eq.mpr htn
          have t2 : (tr.toList != ([] : List UInt8)) = false := bne_eq_false_iff_eq.mpr htn
          have t3 : tr.toList.isEmpty = true := by rw [htn]; rfl
          have Ha := Lib.hid ha
          clear hmm hf hb4 hiff htn ha
          have hcv := fun W => print_bytes (P := Tryz.prog) 9 55 5 Tryz.underlying9 Tryz.underlying55 Tryz.underlying5 a0 W
          go_enter Tryz.func112, Tryz.ntmps112
          go_wp2_with (go_at_call 114; refine (strings_Trim.calls a0 _ tr _ HT.out).mono ?_; rintro e w1 ⟨rfl, hb1⟩; have HB1 := Lib.hid hb1; clear hb1)
          clear hcv
          have HB := Aside0.mk (bytes_below HB1.out HB1.out.size 5 a0)
          have HG := Lib.hid (Lib.bytesWorld_at_new w1 5 a0)
          obtain ⟨C, hC⟩ : ∃ C, C = Lib.bytesCells w1 5 a0 := ⟨_, rfl⟩
          rw [← hC] at HG
          have HC := Lib.hid hC
          clear hC
          obtain ⟨w3, hw3⟩ : ∃ w3, w3 = Lib.bytesWorld w1 5 a0 := ⟨_, rfl⟩
          rw [← hw3] at HG HB ⊢
          clear hw3
          generalize grownCap w1 a0.size 0 5 = cap
          go_loop [6, 27] (fun v6 v27 => ∃ k : Nat, v27 = .int .i64 k ∧ k ≤ a0.size ∧ v6 = .int .i64 (numL (a0.data.toList.take k))) (fun _ v27 => a0.size - (intOf v27).toNat)
          case atStart => exact ⟨0, rfl, Nat.zero_le _, rfl⟩
          case round =>
            obtain ⟨k, rfl, hk, rfl⟩ := hrel
            by_cases hlt : k < a0.size
            · have hcell : w3.cell? ⟨w1.heap.size, k, none⟩ = some (.int .u8 ((a0[k]'hlt).toNat : Nat)) := bytes_cell_at3 HG.out HC.out k hlt
              have hd := dig_at a0 Ha.out k hlt
              have Hn := Lib.hid (num_take a0 k hlt)
              have hx := numL_bd k (a0.data.toList.take k) (by rw [List.length_take, Array.length_toList]; exact Nat.min_eq_left hk) (by
                rw [List.all_eq_true]; intro x hx; exact List.all_eq_true.1 Ha.out x (List.mem_of_mem_take hx))
              have hp : (10 : Int) ^ k ≤ 1000000000000000 := by
                have : ∀ j, j < 16 → (10 : Int) ^ j ≤ 1000000000000000 := by decide
                exact this k (by omega)
              obtain ⟨hx0, hx1⟩ := hx
              have hx2 : numL (a0.data.toList.take k) ≤ 1000000000000000 := by omega
              clear hx1 hp
              obtain ⟨hd1, hd2⟩ := hd
              obtain ⟨c, hc⟩ : ∃ c : Nat, c = (a0[k]'hlt).toNat := ⟨_, rfl⟩
              rw [← hc] at hcell hd1 hd2 Hn
              clear hc
              obtain ⟨x, hx⟩ : ∃ x : Int, x = numL (a0.data.toList.take k) := ⟨_, rfl⟩
              rw [← hx] at hx0 hx2 Hn ⊢
              clear hx
              have hd1' : 48 ≤ (c : Int) := by omega
              have hd2' : (c : Int) ≤ 57 := by omega
              clear hd1 hd2 hm1 hm2
              go_wp2
              go_round
              case rel => exact ⟨k + 1, by go_num, hlt, by rw [Hn.out]⟩
              case measure => simp [intOf]; omega
            · have hk' : k = a0.size := by omega
              subst hk'
              have HF := Lib.hid (show numL (a0.data.toList.take a0.size) = numL a0.data.toList by rw [List.take_of_length_le (by simp)])
              go_wp2
              go_ret2
              exact ⟨by rw [← HF.out]; rfl, HB.out⟩
        · have hf : numOK a0 a1 = false := by
            unfold numOK; rw [Bool.eq_false_iff.mpr ha]; simp
          rw [hf] at h
          simp only [Bool.false_eq_true, if_false, Option.some.injEq, Prod.mk.injEq] at h
          obtain ⟨rfl, rfl⟩ := h
          have htn : ¬ tr.toList = [] := fun e => ha (hiff.1 e)
          have t1 : (tr.toList == ([] : List UInt8)) = false := beq_eq_false_iff_ne.mpr htn
          have t2 : (tr.toList != ([] : List UInt8)) = true := bne_iff_ne.mpr htn
          have t3 : tr.toList.isEmpty = false := by cases h : tr.toList <;> simp_all
          clear hmm hf hb4 hiff htn ha
          go_enter Tryz.func112, Tryz.ntmps112
          go_wp2_with (go_at_call 114; refine (strings_Trim.calls a0 _ tr _ HT.out).mono ?_; rintro e w1 ⟨rfl, hb1⟩; have HB1 := Lib.hid hb1; clear hb1)
          go_ret2
          exact ⟨rfl, HB1.out⟩
  · rw [if_neg hsz] at h; cases h


/-! ### strconv_Itoa: function 113 (by hand) -/
def strconv_Itoa.f (a0 : Int) : Option ByteArray := if -9223372036854775808 ≤ a0 ∧ a0 ≤ 9223372036854775807 then some ⟨(Lib.itoa a0).toArray⟩ else none
theorem strconv_Itoa.calls (a0 : Int) (r : ByteArray) (w : World) (hG : Glob w) (h : strconv_Itoa.f a0 = some r) :
    Calls Tryz.prog 113 #[.int .i64 a0] w fun e w' => e = .returned (.string r) ∧ Below w.heap.size w w' := by
  unfold strconv_Itoa.f at h
  split at h
  · rename_i hs
    obtain rfl := Option.some.inj h
    refine (Tryz.strconv_Itoa a0 hs.1 hs.2 w hG.p10).mono ?_
    rintro e w' ⟨rfl, k, os, rfl⟩
    exact ⟨rfl, Lib.below_grow _ _ (Nat.le_refl _) _ _⟩
  · cases h


/-! ### addr_octet: function 91 -/
def addr_octet.f (a0 : ByteArray) : Option (Bool) := (text_Number.f a0 3).bind fun bt104 => (if bt104.2 = 0 then (if bt104.1 < 256 then ((strconv_Itoa.f bt104.1).bind fun t106 => (some (t106.toList == a0.toList))) else (some false)) else (some false))
theorem addr_octet.calls (a0 : ByteArray) (r : Bool) (w : World) (hG : Glob w) (h : addr_octet.f a0 = some r) :
  Calls Tryz.prog 91 #[.string a0] w fun e w' => e = .returned (.bool r) ∧ Below w.heap.size w w' := by
 have HB := Aside0.mk (Below.refl w.heap.size w)
 have HG := Aside0.mk hG
 clear hG
 have H : ((text_Number.f a0 3).bind fun bt104 => (if bt104.2 = 0 then (if bt104.1 < 256 then ((strconv_Itoa.f bt104.1).bind fun t106 => (some (t106.toList == a0.toList))) else (some false)) else (some false))) = some r := h
 clear h
 obtain ⟨⟨t104, t105⟩, A20, H⟩ := Option.bind_eq_some_iff.mp H
 replace H : (if t105 = 0 then (if t104 < 256 then ((strconv_Itoa.f t104).bind fun t106 => (some (t106.toList == a0.toList))) else (some false)) else (some false)) = some r := H
 have A2 := Aside0.mk A20
 clear A20
 by_cases c3 : t105 = 0
 ·rw [if_pos c3] at H
  have c3b0 : (t105 == 0) = true := beq_iff_eq.mpr c3
  have c3b1 : (t105 != 0) = false := bne_eq_false_iff_eq.mpr c3
  clear c3
  by_cases c4 : t104 < 256
  ·rw [if_pos c4] at H
   have c4b0 : decide (t104 < 256) = true := decide_eq_true c4
   clear c4
   obtain ⟨t106, A50, H⟩ := Option.bind_eq_some_iff.mp H
   replace H : (some (t106.toList == a0.toList)) = some r := H
   have A5 := Aside0.mk A50
   clear A50
   obtain rfl := Option.some.inj H
   go_enter Tryz.func91, Tryz.ntmps91
   go_wp2_with (first | ((with_reducible refine gate_callee (f := 112) rfl ?_); refine goesL_ (some 7) rfl rfl Tryz.func112 kf rfl #[.string a0, .int .i64 3] rfl ml ?_; (with_reducible refine (text_Number.calls a0 3 t104 t105 _ A2.out).mono ?_); rintro e w6 ⟨rfl, hb⟩; refine ⟨_, rfl, ?_⟩; replace HB := Aside0.mk (below_step bl hb); (try clear hb); (try clear hb2); (try clear hk); (try clear hi)) | (go_at_call 113; (with_reducible refine (strconv_Itoa.calls t104 t106 _ ?side1 A5.out).mono ?_); (case side1 => exact Glob.below HG.out bl); rintro e w7 ⟨rfl, hb⟩; replace HB := Aside0.mk (below_step bl hb); (try clear hb); (try clear hb2); (try clear hk); (try clear hi)))
   go_ret
   exact ⟨rf, bl⟩
  ·rw [if_neg c4] at H
   have c4b0 : decide (t104 < 256) = false := decide_eq_false c4
   clear c4
   obtain rfl := Option.some.inj H
   go_enter Tryz.func91, Tryz.ntmps91
   go_wp2_with (first | ((with_reducible refine gate_callee (f := 112) rfl ?_); refine goesL_ (some 7) rfl rfl Tryz.func112 kf rfl #[.string a0, .int .i64 3] rfl ml ?_; (with_reducible refine (text_Number.calls a0 3 t104 t105 _ A2.out).mono ?_); rintro e w8 ⟨rfl, hb⟩; refine ⟨_, rfl, ?_⟩; replace HB := Aside0.mk (below_step bl hb); (try clear hb); (try clear hb2); (try clear hk); (try clear hi)))
   go_ret
   exact ⟨rf, bl⟩
 ·rw [if_neg c3] at H
  have c3b0 : (t105 == 0) = false := beq_eq_false_iff_ne.mpr c3
  have c3b1 : (t105 != 0) = true := bne_iff_ne.mpr c3
  obtain rfl := Option.some.inj H
  go_enter Tryz.func91, Tryz.ntmps91
  go_wp2_with (first | ((with_reducible refine gate_callee (f := 112) rfl ?_); refine goesL_ (some 7) rfl rfl Tryz.func112 kf rfl #[.string a0, .int .i64 3] rfl ml ?_; (with_reducible refine (text_Number.calls a0 3 t104 t105 _ A2.out).mono ?_); rintro e w9 ⟨rfl, hb⟩; refine ⟨_, rfl, ?_⟩; replace HB := Aside0.mk (below_step bl hb); (try clear hb); (try clear hb2); (try clear hk); (try clear hi)))
  go_ret
  exact ⟨rf, bl⟩

/-! ### addr_label: function 92 -/
def addr_label.f (a0 : ByteArray) : Option (Bool) := if a0.toList = ([] : List UInt8) then (some false) else ((strings_Trim.f a0 (⟨#[97, 98, 99, 100, 101, 102, 103, 104, 105, 106, 107, 108, 109, 110, 111, 112, 113, 114, 115, 116, 117, 118, 119, 120, 121, 122, 65, 66, 67, 68, 69, 70, 71, 72, 73, 74, 75, 76, 77, 78, 79, 80, 81, 82, 83, 84, 85, 86, 87, 88, 89, 90, 48, 49, 50, 51, 52, 53, 54, 55, 56, 57, 45]⟩ : ByteArray)).bind fun t107 => (if t107.toList = ([] : List UInt8) then (if 0 < (a0.size : Int) then (if (bt a0 0) = 45 then (some false) else (if 0 ≤ (wrap64 ((a0.size : Int) - 1)) then (if (wrap64 ((a0.size : Int) - 1)) < (a0.size : Int) then (some ((bt a0 (wrap64 ((a0.size : Int) - 1))) != 45)) else (none)) else (none))) else (none)) else (some false)))
theorem addr_label.calls (a0 : ByteArray) (r : Bool) (w : World) (h : addr_label.f a0 = some r) :
  Calls Tryz.prog 92 #[.string a0] w fun e w' => e = .returned (.bool r) ∧ Below w.heap.size w w' := by
 have HB := Aside0.mk (Below.refl w.heap.size w)
 have H : (if a0.toList = ([] : List UInt8) then (some false) else ((strings_Trim.f a0 (⟨#[97, 98, 99, 100, 101, 102, 103, 104, 105, 106, 107, 108, 109, 110, 111, 112, 113, 114, 115, 116, 117, 118, 119, 120, 121, 122, 65, 66, 67, 68, 69, 70, 71, 72, 73, 74, 75, 76, 77, 78, 79, 80, 81, 82, 83, 84, 85, 86, 87, 88, 89, 90, 48, 49, 50, 51, 52, 53, 54, 55, 56, 57, 45]⟩ : ByteArray)).bind fun t107 => (if t107.toList = ([] : List UInt8) then (if 0 < (a0.size : Int) then (if (bt a0 0) = 45 then (some false) else (if 0 ≤ (wrap64 ((a0.size : Int) - 1)) then (if (wrap64 ((a0.size : Int) - 1)) < (a0.size : Int) then (some ((bt a0 (wrap64 ((a0.size : Int) - 1))) != 45)) else (none)) else (none))) else (none)) else (some false)))) = some r := h
 clear h
 by_cases c2 : a0.toList = ([] : List UInt8)
 ·rw [if_pos c2] at H
  have c2b0 : (a0.toList == ([] : List UInt8)) = true := beq_iff_eq.mpr c2
  have c2b1 : (a0.toList != ([] : List UInt8)) = false := bne_eq_false_iff_eq.mpr c2
  clear c2
  obtain rfl := Option.some.inj H
  go_enter Tryz.func92, Tryz.ntmps92
  go_wp2
  go_ret
  exact ⟨rf, bl⟩
 ·rw [if_neg c2] at H
  have c2b0 : (a0.toList == ([] : List UInt8)) = false := beq_eq_false_iff_ne.mpr c2
  have c2b1 : (a0.toList != ([] : List UInt8)) = true := bne_iff_ne.mpr c2
  obtain ⟨t107, A30, H⟩ := Option.bind_eq_some_iff.mp H
  replace H : (if t107.toList = ([] : List UInt8) then (if 0 < (a0.size : Int) then (if (bt a0 0) = 45 then (some false) else (if 0 ≤ (wrap64 ((a0.size : Int) - 1)) then (if (wrap64 ((a0.size : Int) - 1)) < (a0.size : Int) then (some ((bt a0 (wrap64 ((a0.size : Int) - 1))) != 45)) else (none)) else (none))) else (none)) else (some false)) = some r := H
  have A3 := Aside0.mk A30
  clear A30
  by_cases c4 : t107.toList = ([] : List UInt8)
  ·rw [if_pos c4] at H
   have c4b0 : (t107.toList == ([] : List UInt8)) = true := beq_iff_eq.mpr c4
   have c4b1 : (t107.toList != ([] : List UInt8)) = false := bne_eq_false_iff_eq.mpr c4
   clear c4
   by_cases c5 : 0 < (a0.size : Int)
   rotate_left
   ·rw [if_neg c5] at H
    exact ab H
   rw [if_pos c5] at H
   have c5b0 : decide (0 < (a0.size : Int)) = true := decide_eq_true c5
   have c5b1 : decide (0 < a0.size) = true := decide_eq_true (by omega)
   clear c5
   by_cases c7 : (bt a0 0) = 45
   ·rw [if_pos c7] at H
    have c7b0 : ((bt a0 0) == 45) = true := beq_iff_eq.mpr c7
    have c7b1 : ((bt a0 0) != 45) = false := bne_eq_false_iff_eq.mpr c7
    clear c7
    obtain rfl := Option.some.inj H
    go_enter Tryz.func92, Tryz.ntmps92
    go_wp2_with (first | (go_at_call 114; (with_reducible refine (strings_Trim.calls a0 (⟨#[97, 98, 99, 100, 101, 102, 103, 104, 105, 106, 107, 108, 109, 110, 111, 112, 113, 114, 115, 116, 117, 118, 119, 120, 121, 122, 65, 66, 67, 68, 69, 70, 71, 72, 73, 74, 75, 76, 77, 78, 79, 80, 81, 82, 83, 84, 85, 86, 87, 88, 89, 90, 48, 49, 50, 51, 52, 53, 54, 55, 56, 57, 45]⟩ : ByteArray) t107 _ A3.out).mono ?_); rintro e w8 ⟨rfl, hb⟩; replace HB := Aside0.mk (below_step bl hb); (try clear hb); (try clear hb2); (try clear hk); (try clear hi); have p6 : 0 ≤ (0 : Int) := (by omega); have q6 : 0 < a0.size := (by have : (0 : Int) < (a0.size : Int) := od; omega); have hx6 : ∀ h : 0 < a0.size, ((a0[0]'h).toNat : Int) = bt a0 0 := bt_at a0 0; clear p6; have qi6 : (0 < (a0.size : Int)) = True := eq_true (od); replace q6 := eq_true q6))
    go_ret
    exact ⟨rf, bl⟩
   ·rw [if_neg c7] at H
    have c7b0 : ((bt a0 0) == 45) = false := beq_eq_false_iff_ne.mpr c7
    have c7b1 : ((bt a0 0) != 45) = true := bne_iff_ne.mpr c7
    obtain ⟨ji9, hji9⟩ : ∃ j_ : Int, (wrap64 ((a0.size : Int) - 1)) = j_ := ⟨_, rfl⟩
    replace H : (if 0 ≤ (ji9) then (if (ji9) < (a0.size : Int) then (some ((bt a0 (ji9)) != 45)) else (none)) else (none)) = some r := by first | (rw [hji9] at H; exact H) | (simp only [hji9] at H ⊢; exact H)
    (try rw [hji9] at A3)
    have hji9w : (IntKind.i64.wrap ((a0.size : Int) - 1)) = ji9 := (i64_w _).trans hji9
    by_cases c10 : 0 ≤ (ji9)
    rotate_left
    ·rw [if_neg c10] at H
     exact ab H
    rw [if_pos c10] at H
    have c10b0 : decide (0 ≤ (ji9)) = true := decide_eq_true c10
    clear c10
    by_cases c11 : (ji9) < (a0.size : Int)
    rotate_left
    ·rw [if_neg c11] at H
     exact ab H
    rw [if_pos c11] at H
    have c11b0 : decide ((ji9) < (a0.size : Int)) = true := decide_eq_true c11
    clear c11
    obtain rfl := Option.some.inj H
    go_enter Tryz.func92, Tryz.ntmps92
    go_wp2_with (first | (go_at_call 114; (with_reducible refine (strings_Trim.calls a0 (⟨#[97, 98, 99, 100, 101, 102, 103, 104, 105, 106, 107, 108, 109, 110, 111, 112, 113, 114, 115, 116, 117, 118, 119, 120, 121, 122, 65, 66, 67, 68, 69, 70, 71, 72, 73, 74, 75, 76, 77, 78, 79, 80, 81, 82, 83, 84, 85, 86, 87, 88, 89, 90, 48, 49, 50, 51, 52, 53, 54, 55, 56, 57, 45]⟩ : ByteArray) t107 _ A3.out).mono ?_); rintro e w13 ⟨rfl, hb⟩; replace HB := Aside0.mk (below_step bl hb); (try clear hb); (try clear hb2); (try clear hk); (try clear hi); have p6 : 0 ≤ (0 : Int) := (by omega); have q6 : 0 < a0.size := (by have : (0 : Int) < (a0.size : Int) := od; omega); have hx6 : ∀ h : 0 < a0.size, ((a0[0]'h).toNat : Int) = bt a0 0 := bt_at a0 0; clear p6; have qi6 : (0 < (a0.size : Int)) = True := eq_true (od); replace q6 := eq_true q6; have p12 : 0 ≤ ((ji9) : Int) := od; have q12 : (ji9) < (a0.size : Int) := od; have hx12 := bt_at a0 (ji9); replace p12 := eq_true p12; replace q12 := eq_true q12))
    go_ret
    exact ⟨by first | rfl | (simp [bneNil]; done) | (simp [errW_none, errW_some] <;> rfl) | (simp only [← hji9]; first | rfl | (simp [errW_none, errW_some] <;> rfl)) | (simp [*, errW_none, errW_some] <;> rfl), bl⟩
  ·rw [if_neg c4] at H
   have c4b0 : (t107.toList == ([] : List UInt8)) = false := beq_eq_false_iff_ne.mpr c4
   have c4b1 : (t107.toList != ([] : List UInt8)) = true := bne_iff_ne.mpr c4
   obtain rfl := Option.some.inj H
   go_enter Tryz.func92, Tryz.ntmps92
   go_wp2_with (first | (go_at_call 114; (with_reducible refine (strings_Trim.calls a0 (⟨#[97, 98, 99, 100, 101, 102, 103, 104, 105, 106, 107, 108, 109, 110, 111, 112, 113, 114, 115, 116, 117, 118, 119, 120, 121, 122, 65, 66, 67, 68, 69, 70, 71, 72, 73, 74, 75, 76, 77, 78, 79, 80, 81, 82, 83, 84, 85, 86, 87, 88, 89, 90, 48, 49, 50, 51, 52, 53, 54, 55, 56, 57, 45]⟩ : ByteArray) t107 _ A3.out).mono ?_); rintro e w14 ⟨rfl, hb⟩; replace HB := Aside0.mk (below_step bl hb); (try clear hb); (try clear hb2); (try clear hk); (try clear hi)))
   go_ret
   exact ⟨rf, bl⟩

/-! ### addr_domain_2: function 93 -/
def addr_domain_2.f (a0 : ByteArray) : Option (Bool) := some (decide ((a0.size : Int) ≤ 63))
theorem addr_domain_2.calls (a0 : ByteArray) (r : Bool) (w : World) (h : addr_domain_2.f a0 = some r) :
  Calls Tryz.prog 93 #[.string a0] w fun e w' => e = .returned (.bool r) ∧ Drawn0 w w' := by
 have H : (some (decide ((a0.size : Int) ≤ 63))) = some r := h
 clear h
 obtain rfl := Option.some.inj H
 go_enter Tryz.func93, Tryz.ntmps93
 go_wp2
 go_ret
 exact ⟨by first | rfl | (simp [bneNil]; done) | (simp; done) | (simp [*]; done), dr⟩

/-! ### addr_domain_1__addr_domain_2: function 86 with function 93 (by hand) -/
def addr_domain_1__addr_domain_2.p (x : ByteArray) : Option Bool := (addr_domain_2.f x).bind fun b => some (!b)
def addr_domain_1__addr_domain_2.f (a0 : ByteArray) : Option Bool := (strings_Split.f a0 (⟨#[46]⟩ : ByteArray)).bind fun l => (anyF (fun x => addr_domain_1__addr_domain_2.p x) l).bind fun b => some (!b)
theorem addr_domain_1__addr_domain_2.clo (x : ByteArray) (b : Bool) (w : World) (hG : Glob w) (Bi : Nat) (T : TypeId) (hm : w.heap[Bi]? = some (.cells #[.func (.func 93) #[] #[]] T (0, 0))) (h : addr_domain_1__addr_domain_2.p x = some b) :
    Calls Tryz.prog 88 #[.string x, .pointer (some ⟨Bi, 0, none⟩)] w fun e w' => e = .returned (.bool b) ∧ Below w.heap.size w w' := by
  obtain ⟨c, hc, he⟩ := Option.bind_eq_some_iff.mp h
  obtain rfl := Option.some.inj he
  have hcell : w.cell? ⟨Bi, 0, none⟩ = some (.func (.func 93) #[] #[]) := (blk_cell hm 0).trans rfl
  have HQ := Aside0.mk hc
  have HG := Aside0.mk hG
  clear h he hc hm hG
  go_enter Tryz.func88, Tryz.ntmps88
  go_wp2_with (go_at_call 93; (with_reducible refine (addr_domain_2.calls x c _ HQ.out).mono ?_); rintro e w1 ⟨rfl, hd1⟩; have HB1 := Lib.hid hd1.below; clear hd1)
  go_ret
  exact ⟨by simp, HB1.out⟩
theorem addr_domain_1__addr_domain_2.idx (l : List ByteArray) (r : Bool) (hl : l.length ≤ 9223372036854775807) (A : Option Addr) (c : Nat) (w : World) (hC : ReadsOf Value.string ByteArray.empty w A l.length l) (hG : Glob w) (Bi : Nat) (T : TypeId) (hm : w.heap[Bi]? = some (.cells #[.func (.func 93) #[] #[]] T (0, 0))) (h : anyF (fun x => addr_domain_1__addr_domain_2.p x) l = some r) :
    Calls Tryz.prog 102 #[.slice A l.length c, .func (.func 88) #[] #[.pointer (some ⟨Bi, 0, none⟩)]] w (IdxPost r w) := by
  have HC := Lib.hid hC
  have HG := Lib.hid hG
  have HM := Lib.hid hm
  have h' : Aside0 (anyF (fun x => addr_domain_1__addr_domain_2.p x) (l.drop 0) = some r) := ⟨h⟩
  clear hC h hG hm
  go_enter Tryz.func102, Tryz.ntmps102
  go_wp2
  go_loopw [8] (fun v8 w' => ∃ j : Nat, v8 = .int .i64 j ∧ j ≤ l.length ∧ Aside0 (anyF (fun x => addr_domain_1__addr_domain_2.p x) (l.drop j) = some r) ∧ Aside0 (Below w.heap.size w w')) (fun v8 _ => l.length - (intOf v8).toNat)
  case atStart => exact ⟨0, rfl, Nat.zero_le _, h', ⟨Below.refl _ _⟩⟩
  case round =>
    obtain ⟨j, rfl, hj, Hall, HB⟩ := hrel
    by_cases hlt : j < l.length
    · obtain ⟨ad, hA, hcell⟩ := (HC.out.below HB.out).at_ (j : Int) (by omega) (by omega)
      rw [Int.toNat_natCast] at hcell
      have ex : rdOf ByteArray.empty l (j : Int) = l[j]'hlt := by simp [rdOf, hlt]
      rw [ex] at hcell
      clear ex
      have hd := Hall.out
      rw [List.drop_eq_getElem_cons hlt] at hd
      obtain ⟨b, hb, hrest⟩ := anyF_cons hd
      have Hb := Lib.hid hb
      clear hb hd
      obtain ⟨x, hx⟩ : ∃ x : ByteArray, x = l[j]'hlt := ⟨_, rfl⟩
      rw [← hx] at hcell Hb
      clear hx
      rcases hrest with ⟨rfl, hr⟩ | ⟨rfl, hr⟩
      · have Hr := Lib.hid hr
        clear hr
        subst hA
        go_wp2_with (refine (addr_domain_1__addr_domain_2.clo x true _ (HG.out.below HB.out) Bi T (blk_below HM.out HB.out) Hb.out).mono ?_; rintro e w1 ⟨rfl, hb1⟩; have HB1 := Lib.hid hb1; clear hb1)
        go_ret
        refine ⟨(j : Int), rfl, ?_, HB.out.trans (HB1.out.mono HB.out.size)⟩
        rw [Hr.out]
        exact decide_eq_true (by omega)
      · have Hr := Aside0.mk hr
        clear hr
        subst hA
        go_wp2_with (refine (addr_domain_1__addr_domain_2.clo x false _ (HG.out.below HB.out) Bi T (blk_below HM.out HB.out) Hb.out).mono ?_; rintro e w1 ⟨rfl, hb1⟩; have HB1 := Lib.hid hb1; clear hb1)
        go_roundw
        case rel => exact ⟨j + 1, by go_num, hlt, Hr, ⟨HB.out.trans (HB1.out.mono HB.out.size)⟩⟩
        case measure => simp [intOf]; omega
    · go_wp2
      go_ret
      have hd := Hall.out
      rw [List.drop_of_length_le (by omega)] at hd
      have hr : false = r := Option.some.inj hd
      refine ⟨-1, rfl, ?_, HB.out⟩
      rw [← hr]; rfl
theorem addr_domain_1__addr_domain_2.cf (A0 : Option Addr) (c0 : Nat) (l0 : List ByteArray) (r : Bool) (w : World) (hr0 : Kd.C Kd.string w A0 l0.length l0) (hG : Glob w) (Bi : Nat) (T : TypeId) (hm : w.heap[Bi]? = some (.cells #[.func (.func 93) #[] #[]] T (0, 0))) (h : anyF (fun x => addr_domain_1__addr_domain_2.p x) l0 = some r) :
    Calls Tryz.prog 79 #[.slice A0 l0.length c0, .func (.func 88) #[] #[.pointer (some ⟨Bi, 0, none⟩)]] w fun e w' => e = .returned (.bool r) ∧ Below w.heap.size w w' := by
  have hrd : ReadsOf Value.string ByteArray.empty w A0 l0.length l0 := Kd.reads_of_C hr0
  have HI := Lib.hid (addr_domain_1__addr_domain_2.idx l0 r hrd.2.1 A0 c0 w hrd hG Bi T hm h)
  clear hrd hr0 h hG hm
  go_enter Tryz.func79, Tryz.ntmps79
  go_wp2_with (go_at_call 102; refine HI.out.mono ?_; rintro e w1 ⟨i, rfl, hi, hb⟩; have HB1 := Lib.hid hb; clear hb; have Hi := Lib.hid hi; clear hi)
  go_ret
  exact ⟨by have hi := Hi.out; simp [hi], HB1.out⟩
theorem addr_domain_1__addr_domain_2.calls (a0 : ByteArray) (r : Bool) (w : World) (hG : Glob w) (h : addr_domain_1__addr_domain_2.f a0 = some r) :
    Calls Tryz.prog 86 #[.string a0, .func (.func 93) #[] #[]] w fun e w' => e = .returned (.bool r) ∧ Below w.heap.size w w' := by
  obtain ⟨l, h1, h2⟩ := Option.bind_eq_some_iff.mp h
  obtain ⟨c, h3, h4⟩ := Option.bind_eq_some_iff.mp h2
  obtain rfl := Option.some.inj h4
  have HB := Aside0.mk (Below.refl w.heap.size w)
  have H1 := Aside0.mk h1
  have H3 := Aside0.mk h3
  have HG := Aside0.mk hG
  clear h h1 h2 h3 h4 hG
  go_enter Tryz.func86, Tryz.ntmps86
  go_wp2_with (first
    | (go_at_call 87; (with_reducible refine (strings_Split.calls a0 (⟨#[46]⟩ : ByteArray) l _ ?side1 H1.out).mono ?_); (case side1 => exact Glob.below HG.out (below_alloc HB.out _)); rintro e w1 ⟨v0_, rfl, hR, hb⟩; have HM := Aside0.mk (blk_below (blk_new w _) hb); have HB1 := Aside0.mk ((below_alloc HB.out _).trans (hb.mono (below_alloc HB.out _).size)); clear HB; have HR := Aside0.mk hR; clear hb hR; obtain ⟨Ao, co, eo⟩ := Kd.R_slice HR.out; subst eo)
    | (go_at_call 79; (with_reducible refine (addr_domain_1__addr_domain_2.cf _ _ l c _ (Kd.R_reads' HR.out).2.2 (Glob.below HG.out HB1.out) _ _ HM.out H3.out).mono ?_); rintro e w2 ⟨rfl, hb2⟩; have HB2 := Aside0.mk (HB1.out.trans (hb2.mono HB1.out.size)); clear hb2))
  go_ret
  exact ⟨by simp, HB2.out⟩


/-! ### addr_domain_1__addr_label: function 86 with function 92 (by hand) -/
def addr_domain_1__addr_label.p (x : ByteArray) : Option Bool := (addr_label.f x).bind fun b => some (!b)
def addr_domain_1__addr_label.f (a0 : ByteArray) : Option Bool := (strings_Split.f a0 (⟨#[46]⟩ : ByteArray)).bind fun l => (anyF (fun x => addr_domain_1__addr_label.p x) l).bind fun b => some (!b)
theorem addr_domain_1__addr_label.clo (x : ByteArray) (b : Bool) (w : World) (hG : Glob w) (Bi : Nat) (T : TypeId) (hm : w.heap[Bi]? = some (.cells #[.func (.func 92) #[] #[]] T (0, 0))) (h : addr_domain_1__addr_label.p x = some b) :
    Calls Tryz.prog 88 #[.string x, .pointer (some ⟨Bi, 0, none⟩)] w fun e w' => e = .returned (.bool b) ∧ Below w.heap.size w w' := by
  obtain ⟨c, hc, he⟩ := Option.bind_eq_some_iff.mp h
  obtain rfl := Option.some.inj he
  have hcell : w.cell? ⟨Bi, 0, none⟩ = some (.func (.func 92) #[] #[]) := (blk_cell hm 0).trans rfl
  have HQ := Aside0.mk hc
  have HG := Aside0.mk hG
  clear h he hc hm hG
  go_enter Tryz.func88, Tryz.ntmps88
  go_wp2_with (go_at_call 92; (with_reducible refine (addr_label.calls x c _ HQ.out).mono ?_); rintro e w1 ⟨rfl, hb1⟩; have HB1 := Lib.hid hb1; clear hb1)
  go_ret
  exact ⟨by simp, HB1.out⟩
theorem addr_domain_1__addr_label.idx (l : List ByteArray) (r : Bool) (hl : l.length ≤ 9223372036854775807) (A : Option Addr) (c : Nat) (w : World) (hC : ReadsOf Value.string ByteArray.empty w A l.length l) (hG : Glob w) (Bi : Nat) (T : TypeId) (hm : w.heap[Bi]? = some (.cells #[.func (.func 92) #[] #[]] T (0, 0))) (h : anyF (fun x => addr_domain_1__addr_label.p x) l = some r) :
    Calls Tryz.prog 102 #[.slice A l.length c, .func (.func 88) #[] #[.pointer (some ⟨Bi, 0, none⟩)]] w (IdxPost r w) := by
  have HC := Lib.hid hC
  have HG := Lib.hid hG
  have HM := Lib.hid hm
  have h' : Aside0 (anyF (fun x => addr_domain_1__addr_label.p x) (l.drop 0) = some r) := ⟨h⟩
  clear hC h hG hm
  go_enter Tryz.func102, Tryz.ntmps102
  go_wp2
  go_loopw [8] (fun v8 w' => ∃ j : Nat, v8 = .int .i64 j ∧ j ≤ l.length ∧ Aside0 (anyF (fun x => addr_domain_1__addr_label.p x) (l.drop j) = some r) ∧ Aside0 (Below w.heap.size w w')) (fun v8 _ => l.length - (intOf v8).toNat)
  case atStart => exact ⟨0, rfl, Nat.zero_le _, h', ⟨Below.refl _ _⟩⟩
  case round =>
    obtain ⟨j, rfl, hj, Hall, HB⟩ := hrel
    by_cases hlt : j < l.length
    · obtain ⟨ad, hA, hcell⟩ := (HC.out.below HB.out).at_ (j : Int) (by omega) (by omega)
      rw [Int.toNat_natCast] at hcell
      have ex : rdOf ByteArray.empty l (j : Int) = l[j]'hlt := by simp [rdOf, hlt]
      rw [ex] at hcell
      clear ex
      have hd := Hall.out
      rw [List.drop_eq_getElem_cons hlt] at hd
      obtain ⟨b, hb, hrest⟩ := anyF_cons hd
      have Hb := Lib.hid hb
      clear hb hd
      obtain ⟨x, hx⟩ : ∃ x : ByteArray, x = l[j]'hlt := ⟨_, rfl⟩
      rw [← hx] at hcell Hb
      clear hx
      rcases hrest with ⟨rfl, hr⟩ | ⟨rfl, hr⟩
      · have Hr := Lib.hid hr
        clear hr
        subst hA
        go_wp2_with (refine (addr_domain_1__addr_label.clo x true _ (HG.out.below HB.out) Bi T (blk_below HM.out HB.out) Hb.out).mono ?_; rintro e w1 ⟨rfl, hb1⟩; have HB1 := Lib.hid hb1; clear hb1)
        go_ret
        refine ⟨(j : Int), rfl, ?_, HB.out.trans (HB1.out.mono HB.out.size)⟩
        rw [Hr.out]
        exact decide_eq_true (by omega)
      · have Hr := Aside0.mk hr
        clear hr
        subst hA
        go_wp2_with (refine (addr_domain_1__addr_label.clo x false _ (HG.out.below HB.out) Bi T (blk_below HM.out HB.out) Hb.out).mono ?_; rintro e w1 ⟨rfl, hb1⟩; have HB1 := Lib.hid hb1; clear hb1)
        go_roundw
        case rel => exact ⟨j + 1, by go_num, hlt, Hr, ⟨HB.out.trans (HB1.out.mono HB.out.size)⟩⟩
        case measure => simp [intOf]; omega
    · go_wp2
      go_ret
      have hd := Hall.out
      rw [List.drop_of_length_le (by omega)] at hd
      have hr : false = r := Option.some.inj hd
      refine ⟨-1, rfl, ?_, HB.out⟩
      rw [← hr]; rfl
theorem addr_domain_1__addr_label.cf (A0 : Option Addr) (c0 : Nat) (l0 : List ByteArray) (r : Bool) (w : World) (hr0 : Kd.C Kd.string w A0 l0.length l0) (hG : Glob w) (Bi : Nat) (T : TypeId) (hm : w.heap[Bi]? = some (.cells #[.func (.func 92) #[] #[]] T (0, 0))) (h : anyF (fun x => addr_domain_1__addr_label.p x) l0 = some r) :
    Calls Tryz.prog 79 #[.slice A0 l0.length c0, .func (.func 88) #[] #[.pointer (some ⟨Bi, 0, none⟩)]] w fun e w' => e = .returned (.bool r) ∧ Below w.heap.size w w' := by
  have hrd : ReadsOf Value.string ByteArray.empty w A0 l0.length l0 := Kd.reads_of_C hr0
  have HI := Lib.hid (addr_domain_1__addr_label.idx l0 r hrd.2.1 A0 c0 w hrd hG Bi T hm h)
  clear hrd hr0 h hG hm
  go_enter Tryz.func79, Tryz.ntmps79
  go_wp2_with (go_at_call 102; refine HI.out.mono ?_; rintro e w1 ⟨i, rfl, hi, hb⟩; have HB1 := Lib.hid hb; clear hb; have Hi := Lib.hid hi; clear hi)
  go_ret
  exact ⟨by have hi := Hi.out; simp [hi], HB1.out⟩
theorem addr_domain_1__addr_label.calls (a0 : ByteArray) (r : Bool) (w : World) (hG : Glob w) (h : addr_domain_1__addr_label.f a0 = some r) :
    Calls Tryz.prog 86 #[.string a0, .func (.func 92) #[] #[]] w fun e w' => e = .returned (.bool r) ∧ Below w.heap.size w w' := by
  obtain ⟨l, h1, h2⟩ := Option.bind_eq_some_iff.mp h
  obtain ⟨c, h3, h4⟩ := Option.bind_eq_some_iff.mp h2
  obtain rfl := Option.some.inj h4
  have HB := Aside0.mk (Below.refl w.heap.size w)
  have H1 := Aside0.mk h1
  have H3 := Aside0.mk h3
  have HG := Aside0.mk hG
  clear h h1 h2 h3 h4 hG
  go_enter Tryz.func86, Tryz.ntmps86
  go_wp2_with (first
    | (go_at_call 87; (with_reducible refine (strings_Split.calls a0 (⟨#[46]⟩ : ByteArray) l _ ?side1 H1.out).mono ?_); (case side1 => exact Glob.below HG.out (below_alloc HB.out _)); rintro e w1 ⟨v0_, rfl, hR, hb⟩; have HM := Aside0.mk (blk_below (blk_new w _) hb); have HB1 := Aside0.mk ((below_alloc HB.out _).trans (hb.mono (below_alloc HB.out _).size)); clear HB; have HR := Aside0.mk hR; clear hb hR; obtain ⟨Ao, co, eo⟩ := Kd.R_slice HR.out; subst eo)
    | (go_at_call 79; (with_reducible refine (addr_domain_1__addr_label.cf _ _ l c _ (Kd.R_reads' HR.out).2.2 (Glob.below HG.out HB1.out) _ _ HM.out H3.out).mono ?_); rintro e w2 ⟨rfl, hb2⟩; have HB2 := Aside0.mk (HB1.out.trans (hb2.mono HB1.out.size)); clear hb2))
  go_ret
  exact ⟨by simp, HB2.out⟩


/-! ### addr_domain_1__addr_octet: function 86 with function 91 (by hand) -/
def addr_domain_1__addr_octet.p (x : ByteArray) : Option Bool := (addr_octet.f x).bind fun b => some (!b)
def addr_domain_1__addr_octet.f (a0 : ByteArray) : Option Bool := (strings_Split.f a0 (⟨#[46]⟩ : ByteArray)).bind fun l => (anyF (fun x => addr_domain_1__addr_octet.p x) l).bind fun b => some (!b)
theorem addr_domain_1__addr_octet.clo (x : ByteArray) (b : Bool) (w : World) (hG : Glob w) (Bi : Nat) (T : TypeId) (hm : w.heap[Bi]? = some (.cells #[.func (.func 91) #[] #[]] T (0, 0))) (h : addr_domain_1__addr_octet.p x = some b) :
    Calls Tryz.prog 88 #[.string x, .pointer (some ⟨Bi, 0, none⟩)] w fun e w' => e = .returned (.bool b) ∧ Below w.heap.size w w' := by
  obtain ⟨c, hc, he⟩ := Option.bind_eq_some_iff.mp h
  obtain rfl := Option.some.inj he
  have hcell : w.cell? ⟨Bi, 0, none⟩ = some (.func (.func 91) #[] #[]) := (blk_cell hm 0).trans rfl
  have HQ := Aside0.mk hc
  have HG := Aside0.mk hG
  clear h he hc hm hG
  go_enter Tryz.func88, Tryz.ntmps88
  go_wp2_with (go_at_call 91; (with_reducible refine (addr_octet.calls x c _ HG.out HQ.out).mono ?_); rintro e w1 ⟨rfl, hb1⟩; have HB1 := Lib.hid hb1; clear hb1)
  go_ret
  exact ⟨by simp, HB1.out⟩
theorem addr_domain_1__addr_octet.idx (l : List ByteArray) (r : Bool) (hl : l.length ≤ 9223372036854775807) (A : Option Addr) (c : Nat) (w : World) (hC : ReadsOf Value.string ByteArray.empty w A l.length l) (hG : Glob w) (Bi : Nat) (T : TypeId) (hm : w.heap[Bi]? = some (.cells #[.func (.func 91) #[] #[]] T (0, 0))) (h : anyF (fun x => addr_domain_1__addr_octet.p x) l = some r) :
    Calls Tryz.prog 102 #[.slice A l.length c, .func (.func 88) #[] #[.pointer (some ⟨Bi, 0, none⟩)]] w (IdxPost r w) := by
  have HC := Lib.hid hC
  have HG := Lib.hid hG
  have HM := Lib.hid hm
  have h' : Aside0 (anyF (fun x => addr_domain_1__addr_octet.p x) (l.drop 0) = some r) := ⟨h⟩
  clear hC h hG hm
  go_enter Tryz.func102, Tryz.ntmps102
  go_wp2
  go_loopw [8] (fun v8 w' => ∃ j : Nat, v8 = .int .i64 j ∧ j ≤ l.length ∧ Aside0 (anyF (fun x => addr_domain_1__addr_octet.p x) (l.drop j) = some r) ∧ Aside0 (Below w.heap.size w w')) (fun v8 _ => l.length - (intOf v8).toNat)
  case atStart => exact ⟨0, rfl, Nat.zero_le _, h', ⟨Below.refl _ _⟩⟩
  case round =>
    obtain ⟨j, rfl, hj, Hall, HB⟩ := hrel
    by_cases hlt : j < l.length
    · obtain ⟨ad, hA, hcell⟩ := (HC.out.below HB.out).at_ (j : Int) (by omega) (by omega)
      rw [Int.toNat_natCast] at hcell
      have ex : rdOf ByteArray.empty l (j : Int) = l[j]'hlt := by simp [rdOf, hlt]
      rw [ex] at hcell
      clear ex
      have hd := Hall.out
      rw [List.drop_eq_getElem_cons hlt] at hd
      obtain ⟨b, hb, hrest⟩ := anyF_cons hd
      have Hb := Lib.hid hb
      clear hb hd
      obtain ⟨x, hx⟩ : ∃ x : ByteArray, x = l[j]'hlt := ⟨_, rfl⟩
      rw [← hx] at hcell Hb
      clear hx
      rcases hrest with ⟨rfl, hr⟩ | ⟨rfl, hr⟩
      · have Hr := Lib.hid hr
        clear hr
        subst hA
        go_wp2_with (refine (addr_domain_1__addr_octet.clo x true _ (HG.out.below HB.out) Bi T (blk_below HM.out HB.out) Hb.out).mono ?_; rintro e w1 ⟨rfl, hb1⟩; have HB1 := Lib.hid hb1; clear hb1)
        go_ret
        refine ⟨(j : Int), rfl, ?_, HB.out.trans (HB1.out.mono HB.out.size)⟩
        rw [Hr.out]
        exact decide_eq_true (by omega)
      · have Hr := Aside0.mk hr
        clear hr
        subst hA
        go_wp2_with (refine (addr_domain_1__addr_octet.clo x false _ (HG.out.below HB.out) Bi T (blk_below HM.out HB.out) Hb.out).mono ?_; rintro e w1 ⟨rfl, hb1⟩; have HB1 := Lib.hid hb1; clear hb1)
        go_roundw
        case rel => exact ⟨j + 1, by go_num, hlt, Hr, ⟨HB.out.trans (HB1.out.mono HB.out.size)⟩⟩
        case measure => simp [intOf]; omega
    · go_wp2
      go_ret
      have hd := Hall.out
      rw [List.drop_of_length_le (by omega)] at hd
      have hr : false = r := Option.some.inj hd
      refine ⟨-1, rfl, ?_, HB.out⟩
      rw [← hr]; rfl
theorem addr_domain_1__addr_octet.cf (A0 : Option Addr) (c0 : Nat) (l0 : List ByteArray) (r : Bool) (w : World) (hr0 : Kd.C Kd.string w A0 l0.length l0) (hG : Glob w) (Bi : Nat) (T : TypeId) (hm : w.heap[Bi]? = some (.cells #[.func (.func 91) #[] #[]] T (0, 0))) (h : anyF (fun x => addr_domain_1__addr_octet.p x) l0 = some r) :
    Calls Tryz.prog 79 #[.slice A0 l0.length c0, .func (.func 88) #[] #[.pointer (some ⟨Bi, 0, none⟩)]] w fun e w' => e = .returned (.bool r) ∧ Below w.heap.size w w' := by
  have hrd : ReadsOf Value.string ByteArray.empty w A0 l0.length l0 := Kd.reads_of_C hr0
  have HI := Lib.hid (addr_domain_1__addr_octet.idx l0 r hrd.2.1 A0 c0 w hrd hG Bi T hm h)
  clear hrd hr0 h hG hm
  go_enter Tryz.func79, Tryz.ntmps79
  go_wp2_with (go_at_call 102; refine HI.out.mono ?_; rintro e w1 ⟨i, rfl, hi, hb⟩; have HB1 := Lib.hid hb; clear hb; have Hi := Lib.hid hi; clear hi)
  go_ret
  exact ⟨by have hi := Hi.out; simp [hi], HB1.out⟩
theorem addr_domain_1__addr_octet.calls (a0 : ByteArray) (r : Bool) (w : World) (hG : Glob w) (h : addr_domain_1__addr_octet.f a0 = some r) :
    Calls Tryz.prog 86 #[.string a0, .func (.func 91) #[] #[]] w fun e w' => e = .returned (.bool r) ∧ Below w.heap.size w w' := by
  obtain ⟨l, h1, h2⟩ := Option.bind_eq_some_iff.mp h
  obtain ⟨c, h3, h4⟩ := Option.bind_eq_some_iff.mp h2
  obtain rfl := Option.some.inj h4
  have HB := Aside0.mk (Below.refl w.heap.size w)
  have H1 := Aside0.mk h1
  have H3 := Aside0.mk h3
  have HG := Aside0.mk hG
  clear h h1 h2 h3 h4 hG
  go_enter Tryz.func86, Tryz.ntmps86
  go_wp2_with (first
    | (go_at_call 87; (with_reducible refine (strings_Split.calls a0 (⟨#[46]⟩ : ByteArray) l _ ?side1 H1.out).mono ?_); (case side1 => exact Glob.below HG.out (below_alloc HB.out _)); rintro e w1 ⟨v0_, rfl, hR, hb⟩; have HM := Aside0.mk (blk_below (blk_new w _) hb); have HB1 := Aside0.mk ((below_alloc HB.out _).trans (hb.mono (below_alloc HB.out _).size)); clear HB; have HR := Aside0.mk hR; clear hb hR; obtain ⟨Ao, co, eo⟩ := Kd.R_slice HR.out; subst eo)
    | (go_at_call 79; (with_reducible refine (addr_domain_1__addr_octet.cf _ _ l c _ (Kd.R_reads' HR.out).2.2 (Glob.below HG.out HB1.out) _ _ HM.out H3.out).mono ?_); rintro e w2 ⟨rfl, hb2⟩; have HB2 := Aside0.mk (HB1.out.trans (hb2.mono HB1.out.size)); clear hb2))
  go_ret
  exact ⟨by simp, HB2.out⟩


end Go.Proofs.YtgelfnjicglmbaaGreatDoor.Q
end
section
namespace Go.Proofs.YtgelfnjicglmbaaGreatDoor.Q

/-! ### stringslite_HasSuffix: function 36 -/
def stringslite_HasSuffix.f (a0 : ByteArray) (a1 : ByteArray) : Option (Bool) := if (a0.size : Int) ≥ (a1.size : Int) then (if 0 ≤ (wrap64 ((a0.size : Int) - (a1.size : Int))) then (if (wrap64 ((a0.size : Int) - (a1.size : Int))) ≤ (a0.size : Int) then (some ((a0.extract ((wrap64 ((a0.size : Int) - (a1.size : Int))) : Int).toNat a0.size).toList == a1.toList)) else (none)) else (none)) else (some false)
theorem stringslite_HasSuffix.calls (a0 : ByteArray) (a1 : ByteArray) (r : Bool) (w : World) (h : stringslite_HasSuffix.f a0 a1 = some r) :
  Calls Tryz.prog 36 #[.string a0, .string a1] w fun e w' => e = .returned (.bool r) ∧ Drawn0 w w' := by
 have H : (if (a0.size : Int) ≥ (a1.size : Int) then (if 0 ≤ (wrap64 ((a0.size : Int) - (a1.size : Int))) then (if (wrap64 ((a0.size : Int) - (a1.size : Int))) ≤ (a0.size : Int) then (some ((a0.extract ((wrap64 ((a0.size : Int) - (a1.size : Int))) : Int).toNat a0.size).toList == a1.toList)) else (none)) else (none)) else (some false)) = some r := h
 clear h
 by_cases c3 : (a0.size : Int) ≥ (a1.size : Int)
 ·rw [if_pos c3] at H
  have c3b0 : decide ((a1.size : Int) ≤ (a0.size : Int)) = true := decide_eq_true c3
  have c3b1 : decide (a1.size ≤ a0.size) = true := decide_eq_true (Int.ofNat_le.mp c3)
  clear c3
  obtain ⟨ji4, hji4⟩ : ∃ j_ : Int, (wrap64 ((a0.size : Int) - (a1.size : Int))) = j_ := ⟨_, rfl⟩
  replace H : (if 0 ≤ (ji4) then (if (ji4) ≤ (a0.size : Int) then (some ((a0.extract ((ji4) : Int).toNat a0.size).toList == a1.toList)) else (none)) else (none)) = some r := by first | (rw [hji4] at H; exact H) | (simp only [hji4] at H ⊢; exact H)
  have hji4w : (IntKind.i64.wrap ((a0.size : Int) - (a1.size : Int))) = ji4 := (i64_w _).trans hji4
  by_cases c5 : 0 ≤ (ji4)
  rotate_left
  ·rw [if_neg c5] at H
   exact ab H
  rw [if_pos c5] at H
  have c5b0 := eq_true c5
  have c5b1 : decide (0 ≤ (ji4)) = true := decide_eq_true c5
  clear c5
  by_cases c6 : (ji4) ≤ (a0.size : Int)
  rotate_left
  ·rw [if_neg c6] at H
   exact ab H
  rw [if_pos c6] at H
  have c6b0 := eq_true c6
  have c6b1 : decide ((ji4) ≤ (a0.size : Int)) = true := decide_eq_true c6
  clear c6
  obtain rfl := Option.some.inj H
  go_enter Tryz.func36, Tryz.ntmps36
  go_wp2
  go_ret
  exact ⟨by first | rfl | (simp [bneNil]; done) | (simp; done) | (simp only [← hji4] <;> (first | rfl | simp)) | (simp [*]; done), dr⟩
 ·rw [if_neg c3] at H
  have c3b0 : decide ((a1.size : Int) ≤ (a0.size : Int)) = false := decide_eq_false c3
  have c3b1 : decide (a1.size ≤ a0.size) = false := decide_eq_false (fun h => c3 (Int.ofNat_le.mpr h))
  clear c3
  obtain rfl := Option.some.inj H
  go_enter Tryz.func36, Tryz.ntmps36
  go_wp2
  go_ret
  exact ⟨by first | rfl | (simp [bneNil]; done) | (simp; done) | (simp [*]; done), dr⟩

/-! ### stringslite_CutSuffix: function 108 -/
def stringslite_CutSuffix.f (a0 : ByteArray) (a1 : ByteArray) : Option (ByteArray × Bool) := (stringslite_HasSuffix.f a0 a1).bind fun t108 => (if t108 = true then (if 0 ≤ (wrap64 ((a0.size : Int) - (a1.size : Int))) then (if (wrap64 ((a0.size : Int) - (a1.size : Int))) ≤ (a0.size : Int) then (some (a0.extract 0 ((wrap64 ((a0.size : Int) - (a1.size : Int))) : Int).toNat, true)) else (none)) else (none)) else (some (a0, false)))
theorem stringslite_CutSuffix.calls (a0 : ByteArray) (a1 : ByteArray) (r1 : ByteArray) (r2 : Bool) (w : World) (h : stringslite_CutSuffix.f a0 a1 = some (r1, r2)) :
  Calls Tryz.prog 108 #[.string a0, .string a1] w fun e w' => e = .returned (.tuple #[.string r1, .bool r2]) ∧ Drawn0 w w' := by
 have H : ((stringslite_HasSuffix.f a0 a1).bind fun t108 => (if t108 = true then (if 0 ≤ (wrap64 ((a0.size : Int) - (a1.size : Int))) then (if (wrap64 ((a0.size : Int) - (a1.size : Int))) ≤ (a0.size : Int) then (some (a0.extract 0 ((wrap64 ((a0.size : Int) - (a1.size : Int))) : Int).toNat, true)) else (none)) else (none)) else (some (a0, false)))) = some (r1, r2) := h
 clear h
 obtain ⟨t108, A30, H⟩ := Option.bind_eq_some_iff.mp H
 replace H : (if t108 = true then (if 0 ≤ (wrap64 ((a0.size : Int) - (a1.size : Int))) then (if (wrap64 ((a0.size : Int) - (a1.size : Int))) ≤ (a0.size : Int) then (some (a0.extract 0 ((wrap64 ((a0.size : Int) - (a1.size : Int))) : Int).toNat, true)) else (none)) else (none)) else (some (a0, false))) = some (r1, r2) := H
 have A3 := Aside0.mk A30
 clear A30
 by_cases c4 : t108 = true
 ·subst c4
  replace H : (if 0 ≤ (wrap64 ((a0.size : Int) - (a1.size : Int))) then (if (wrap64 ((a0.size : Int) - (a1.size : Int))) ≤ (a0.size : Int) then (some (a0.extract 0 ((wrap64 ((a0.size : Int) - (a1.size : Int))) : Int).toNat, true)) else (none)) else (none)) = some (r1, r2) := by rw [if_pos rfl] at H; exact H
  obtain ⟨ji5, hji5⟩ : ∃ j_ : Int, (wrap64 ((a0.size : Int) - (a1.size : Int))) = j_ := ⟨_, rfl⟩
  replace H : (if 0 ≤ (ji5) then (if (ji5) ≤ (a0.size : Int) then (some (a0.extract 0 ((ji5) : Int).toNat, true)) else (none)) else (none)) = some (r1, r2) := by first | (rw [hji5] at H; exact H) | (simp only [hji5] at H ⊢; exact H)
  (try rw [hji5] at A3)
  have hji5w : (IntKind.i64.wrap ((a0.size : Int) - (a1.size : Int))) = ji5 := (i64_w _).trans hji5
  by_cases c6 : 0 ≤ (ji5)
  rotate_left
  ·rw [if_neg c6] at H
   exact ab H
  rw [if_pos c6] at H
  have c6b0 := eq_true c6
  have c6b1 : decide (0 ≤ (ji5)) = true := decide_eq_true c6
  clear c6
  by_cases c7 : (ji5) ≤ (a0.size : Int)
  rotate_left
  ·rw [if_neg c7] at H
   exact ab H
  rw [if_pos c7] at H
  have c7b0 := eq_true c7
  have c7b1 : decide ((ji5) ≤ (a0.size : Int)) = true := decide_eq_true c7
  clear c7
  simp only [Option.some.injEq, Prod.mk.injEq] at H
  obtain ⟨rfl, rfl⟩ := H
  go_enter Tryz.func108, Tryz.ntmps108
  go_wp2_with (first | ((with_reducible refine gate_callee (f := 36) rfl ?_); refine goesL_ (some 8) rfl rfl Tryz.func36 kf rfl #[.string a0, .string a1] rfl ml ?_; (with_reducible refine (stringslite_HasSuffix.calls a0 a1 true _ A3.out).mono ?_); rintro e w' ⟨rfl, ⟨nd, rfl⟩⟩; refine ⟨_, rfl, ?_⟩))
  go_ret2
  exact ⟨by first | rfl | (simp [bneNil]; done) | (simp; done) | (simp only [← hji5] <;> (first | rfl | simp)) | (simp [*]; done), dr⟩
 ·replace c4 := Bool.eq_false_iff.mpr c4
  subst c4
  replace H : (some (a0, false)) = some (r1, r2) := by rw [if_neg (show ¬ (false = true) by decide)] at H; exact H
  simp only [Option.some.injEq, Prod.mk.injEq] at H
  obtain ⟨rfl, rfl⟩ := H
  go_enter Tryz.func108, Tryz.ntmps108
  go_wp2_with (first | ((with_reducible refine gate_callee (f := 36) rfl ?_); refine goesL_ (some 8) rfl rfl Tryz.func36 kf rfl #[.string a0, .string a1] rfl ml ?_; (with_reducible refine (stringslite_HasSuffix.calls a0 a1 false _ A3.out).mono ?_); rintro e w' ⟨rfl, ⟨nd, rfl⟩⟩; refine ⟨_, rfl, ?_⟩))
  go_ret2
  exact ⟨by first | rfl | (simp [bneNil]; done) | (simp; done) | (simp [*]; done), dr⟩

/-! ### strings_CutSuffix: function 89 -/
def strings_CutSuffix.f (a0 : ByteArray) (a1 : ByteArray) : Option (ByteArray × Bool) := (stringslite_CutSuffix.f a0 a1).bind fun bt109 => (some (bt109.1, bt109.2))
theorem strings_CutSuffix.calls (a0 : ByteArray) (a1 : ByteArray) (r1 : ByteArray) (r2 : Bool) (w : World) (h : strings_CutSuffix.f a0 a1 = some (r1, r2)) :
  Calls Tryz.prog 89 #[.string a0, .string a1] w fun e w' => e = .returned (.tuple #[.string r1, .bool r2]) ∧ Drawn0 w w' := by
 have H : ((stringslite_CutSuffix.f a0 a1).bind fun bt109 => (some (bt109.1, bt109.2))) = some (r1, r2) := h
 clear h
 obtain ⟨⟨t109, t110⟩, A30, H⟩ := Option.bind_eq_some_iff.mp H
 replace H : (some (t109, t110)) = some (r1, r2) := H
 have A3 := Aside0.mk A30
 clear A30
 simp only [Option.some.injEq, Prod.mk.injEq] at H
 obtain ⟨rfl, rfl⟩ := H
 go_enter Tryz.func89, Tryz.ntmps89
 go_wp2_with (first | ((with_reducible refine gate_callee (f := 108) rfl ?_); refine goesL_ (some 8) rfl rfl Tryz.func108 kf rfl #[.string a0, .string a1] rfl ml ?_; (with_reducible refine (stringslite_CutSuffix.calls a0 a1 t109 t110 _ A3.out).mono ?_); rintro e w' ⟨rfl, ⟨nd, rfl⟩⟩; refine ⟨_, rfl, ?_⟩))
 go_ret2
 exact ⟨by first | rfl | (simp [bneNil]; done) | (simp; done) | (simp [*]; done), dr⟩

/-! ### strings_Count: function 90 (by hand) -/
def strings_Count.f (a0 a1 : ByteArray) : Option Int := match a1.data.toList with | [c] => some (Lib.countByte a0.data.toList c) | _ => none
theorem strings_Count.calls (a0 a1 : ByteArray) (r : Int) (w : World) (h : strings_Count.f a0 a1 = some r) :
    Calls Tryz.prog 90 #[.string a0, .string a1] w fun e w' => e = .returned (.int .i64 r) ∧ Drawn0 w w' := by
  unfold strings_Count.f at h
  split at h
  · rename_i c hc
    obtain rfl := Option.some.inj h
    obtain rfl : a1 = ⟨#[c]⟩ := by
      obtain ⟨⟨l⟩⟩ := a1
      simp at hc
      rw [hc]
    refine (Tryz.strings_Count_one a0 c w).mono ?_
    rintro e w' ⟨rfl, rfl⟩
    exact ⟨rfl, Drawn0.refl _⟩
  · cases h


/-! ### addr_domain: function 59 -/
def addr_domain.f (a0 : ByteArray) : Option (Int) := (strings_CutPrefix.f a0 (⟨#[91]⟩ : ByteArray)).bind fun bt111 => (if bt111.2 = true then ((strings_CutSuffix.f bt111.1 (⟨#[93]⟩ : ByteArray)).bind fun bt113 => (if bt113.2 = true then ((strings_Count.f bt113.1 (⟨#[46]⟩ : ByteArray)).bind fun t115 => (if t115 = 3 then ((addr_domain_1__addr_octet.f bt113.1).bind fun t116 => (if t116 = true then (some 0) else (some 5))) else (some 5))) else (some 5))) else ((addr_domain_1__addr_label.f a0).bind fun t117 => (if t117 = true then (if (a0.size : Int) > 255 then (some 3) else ((addr_domain_1__addr_domain_2.f a0).bind fun t118 => (if t118 = true then (some 0) else (some 3)))) else (some 5))))
theorem addr_domain.calls (a0 : ByteArray) (r : Int) (w : World) (hG : Glob w) (h : addr_domain.f a0 = some r) :
  Calls Tryz.prog 59 #[.string a0] w fun e w' => e = .returned (.int .i64 r) ∧ Below w.heap.size w w' := by
 have HB := Aside0.mk (Below.refl w.heap.size w)
 have HG := Aside0.mk hG
 clear hG
 have H : ((strings_CutPrefix.f a0 (⟨#[91]⟩ : ByteArray)).bind fun bt111 => (if bt111.2 = true then ((strings_CutSuffix.f bt111.1 (⟨#[93]⟩ : ByteArray)).bind fun bt113 => (if bt113.2 = true then ((strings_Count.f bt113.1 (⟨#[46]⟩ : ByteArray)).bind fun t115 => (if t115 = 3 then ((addr_domain_1__addr_octet.f bt113.1).bind fun t116 => (if t116 = true then (some 0) else (some 5))) else (some 5))) else (some 5))) else ((addr_domain_1__addr_label.f a0).bind fun t117 => (if t117 = true then (if (a0.size : Int) > 255 then (some 3) else ((addr_domain_1__addr_domain_2.f a0).bind fun t118 => (if t118 = true then (some 0) else (some 3)))) else (some 5))))) = some r := h
 clear h
 obtain ⟨⟨t111, t112⟩, A20, H⟩ := Option.bind_eq_some_iff.mp H
 replace H : (if t112 = true then ((strings_CutSuffix.f t111 (⟨#[93]⟩ : ByteArray)).bind fun bt113 => (if bt113.2 = true then ((strings_Count.f bt113.1 (⟨#[46]⟩ : ByteArray)).bind fun t115 => (if t115 = 3 then ((addr_domain_1__addr_octet.f bt113.1).bind fun t116 => (if t116 = true then (some 0) else (some 5))) else (some 5))) else (some 5))) else ((addr_domain_1__addr_label.f a0).bind fun t117 => (if t117 = true then (if (a0.size : Int) > 255 then (some 3) else ((addr_domain_1__addr_domain_2.f a0).bind fun t118 => (if t118 = true then (some 0) else (some 3)))) else (some 5)))) = some r := H
 have A2 := Aside0.mk A20
 clear A20
 by_cases c3 : t112 = true
 ·subst c3
  replace H : ((strings_CutSuffix.f t111 (⟨#[93]⟩ : ByteArray)).bind fun bt113 => (if bt113.2 = true then ((strings_Count.f bt113.1 (⟨#[46]⟩ : ByteArray)).bind fun t115 => (if t115 = 3 then ((addr_domain_1__addr_octet.f bt113.1).bind fun t116 => (if t116 = true then (some 0) else (some 5))) else (some 5))) else (some 5))) = some r := by rw [if_pos rfl] at H; exact H
  obtain ⟨⟨t113, t114⟩, A40, H⟩ := Option.bind_eq_some_iff.mp H
  replace H : (if t114 = true then ((strings_Count.f t113 (⟨#[46]⟩ : ByteArray)).bind fun t115 => (if t115 = 3 then ((addr_domain_1__addr_octet.f t113).bind fun t116 => (if t116 = true then (some 0) else (some 5))) else (some 5))) else (some 5)) = some r := H
  have A4 := Aside0.mk A40
  clear A40
  by_cases c5 : t114 = true
  ·subst c5
   replace H : ((strings_Count.f t113 (⟨#[46]⟩ : ByteArray)).bind fun t115 => (if t115 = 3 then ((addr_domain_1__addr_octet.f t113).bind fun t116 => (if t116 = true then (some 0) else (some 5))) else (some 5))) = some r := by rw [if_pos rfl] at H; exact H
   obtain ⟨t115, A60, H⟩ := Option.bind_eq_some_iff.mp H
   replace H : (if t115 = 3 then ((addr_domain_1__addr_octet.f t113).bind fun t116 => (if t116 = true then (some 0) else (some 5))) else (some 5)) = some r := H
   have A6 := Aside0.mk A60
   clear A60
   by_cases c7 : t115 = 3
   ·rw [if_pos c7] at H
    have c7b0 : (t115 == 3) = true := beq_iff_eq.mpr c7
    have c7b1 : (t115 != 3) = false := bne_eq_false_iff_eq.mpr c7
    clear c7
    obtain ⟨t116, A80, H⟩ := Option.bind_eq_some_iff.mp H
    replace H : (if t116 = true then (some 0) else (some 5)) = some r := H
    have A8 := Aside0.mk A80
    clear A80
    by_cases c9 : t116 = true
    ·subst c9
     replace H : (some 0) = some r := by rw [if_pos rfl] at H; exact H
     obtain rfl := Option.some.inj H
     go_enter Tryz.func59, Tryz.ntmps59
     go_wp2_with (first | ((with_reducible refine gate_callee (f := 30) rfl ?_); refine goesL_ (some 10) rfl rfl Tryz.func30 kf rfl #[.string a0, .string (⟨#[91]⟩ : ByteArray)] rfl ml ?_; (with_reducible refine (strings_CutPrefix.calls a0 (⟨#[91]⟩ : ByteArray) t111 true _ A2.out).mono ?_); rintro e w' ⟨rfl, ⟨nd, rfl⟩⟩; refine ⟨_, rfl, ?_⟩) | ((with_reducible refine gate_callee (f := 89) rfl ?_); refine goesL_ (some 16) rfl rfl Tryz.func89 kf rfl #[.string t111, .string (⟨#[93]⟩ : ByteArray)] rfl ml ?_; (with_reducible refine (strings_CutSuffix.calls t111 (⟨#[93]⟩ : ByteArray) t113 true _ A4.out).mono ?_); rintro e w' ⟨rfl, ⟨nd, rfl⟩⟩; refine ⟨_, rfl, ?_⟩) | (go_at_call 90; (with_reducible refine (strings_Count.calls t113 (⟨#[46]⟩ : ByteArray) t115 _ A6.out).mono ?_); rintro e w' ⟨rfl, ⟨nd, rfl⟩⟩) | (go_at_call 86; (with_reducible refine (addr_domain_1__addr_octet.calls t113 true _ ?side1 A8.out).mono ?_); (case side1 => exact Glob.below HG.out bl); rintro e w10 ⟨rfl, hb⟩; replace HB := Aside0.mk (below_step bl hb); (try clear hb); (try clear hb2); (try clear hk); (try clear hi)))
     go_ret
     exact ⟨rf, bl⟩
    ·replace c9 := Bool.eq_false_iff.mpr c9
     subst c9
     replace H : (some 5) = some r := by rw [if_neg (show ¬ (false = true) by decide)] at H; exact H
     obtain rfl := Option.some.inj H
     go_enter Tryz.func59, Tryz.ntmps59
     go_wp2_with (first | ((with_reducible refine gate_callee (f := 30) rfl ?_); refine goesL_ (some 10) rfl rfl Tryz.func30 kf rfl #[.string a0, .string (⟨#[91]⟩ : ByteArray)] rfl ml ?_; (with_reducible refine (strings_CutPrefix.calls a0 (⟨#[91]⟩ : ByteArray) t111 true _ A2.out).mono ?_); rintro e w' ⟨rfl, ⟨nd, rfl⟩⟩; refine ⟨_, rfl, ?_⟩) | ((with_reducible refine gate_callee (f := 89) rfl ?_); refine goesL_ (some 16) rfl rfl Tryz.func89 kf rfl #[.string t111, .string (⟨#[93]⟩ : ByteArray)] rfl ml ?_; (with_reducible refine (strings_CutSuffix.calls t111 (⟨#[93]⟩ : ByteArray) t113 true _ A4.out).mono ?_); rintro e w' ⟨rfl, ⟨nd, rfl⟩⟩; refine ⟨_, rfl, ?_⟩) | (go_at_call 90; (with_reducible refine (strings_Count.calls t113 (⟨#[46]⟩ : ByteArray) t115 _ A6.out).mono ?_); rintro e w' ⟨rfl, ⟨nd, rfl⟩⟩) | (go_at_call 86; (with_reducible refine (addr_domain_1__addr_octet.calls t113 false _ ?side1 A8.out).mono ?_); (case side1 => exact Glob.below HG.out bl); rintro e w11 ⟨rfl, hb⟩; replace HB := Aside0.mk (below_step bl hb); (try clear hb); (try clear hb2); (try clear hk); (try clear hi)))
     go_ret
     exact ⟨rf, bl⟩
   ·rw [if_neg c7] at H
    have c7b0 : (t115 == 3) = false := beq_eq_false_iff_ne.mpr c7
    have c7b1 : (t115 != 3) = true := bne_iff_ne.mpr c7
    obtain rfl := Option.some.inj H
    go_enter Tryz.func59, Tryz.ntmps59
    go_wp2_with (first | ((with_reducible refine gate_callee (f := 30) rfl ?_); refine goesL_ (some 10) rfl rfl Tryz.func30 kf rfl #[.string a0, .string (⟨#[91]⟩ : ByteArray)] rfl ml ?_; (with_reducible refine (strings_CutPrefix.calls a0 (⟨#[91]⟩ : ByteArray) t111 true _ A2.out).mono ?_); rintro e w' ⟨rfl, ⟨nd, rfl⟩⟩; refine ⟨_, rfl, ?_⟩) | ((with_reducible refine gate_callee (f := 89) rfl ?_); refine goesL_ (some 16) rfl rfl Tryz.func89 kf rfl #[.string t111, .string (⟨#[93]⟩ : ByteArray)] rfl ml ?_; (with_reducible refine (strings_CutSuffix.calls t111 (⟨#[93]⟩ : ByteArray) t113 true _ A4.out).mono ?_); rintro e w' ⟨rfl, ⟨nd, rfl⟩⟩; refine ⟨_, rfl, ?_⟩) | (go_at_call 90; (with_reducible refine (strings_Count.calls t113 (⟨#[46]⟩ : ByteArray) t115 _ A6.out).mono ?_); rintro e w' ⟨rfl, ⟨nd, rfl⟩⟩))
    go_ret
    exact ⟨rf, bl⟩
  ·replace c5 := Bool.eq_false_iff.mpr c5
   subst c5
   replace H : (some 5) = some r := by rw [if_neg (show ¬ (false = true) by decide)] at H; exact H
   obtain rfl := Option.some.inj H
   go_enter Tryz.func59, Tryz.ntmps59
   go_wp2_with (first | ((with_reducible refine gate_callee (f := 30) rfl ?_); refine goesL_ (some 10) rfl rfl Tryz.func30 kf rfl #[.string a0, .string (⟨#[91]⟩ : ByteArray)] rfl ml ?_; (with_reducible refine (strings_CutPrefix.calls a0 (⟨#[91]⟩ : ByteArray) t111 true _ A2.out).mono ?_); rintro e w' ⟨rfl, ⟨nd, rfl⟩⟩; refine ⟨_, rfl, ?_⟩) | ((with_reducible refine gate_callee (f := 89) rfl ?_); refine goesL_ (some 16) rfl rfl Tryz.func89 kf rfl #[.string t111, .string (⟨#[93]⟩ : ByteArray)] rfl ml ?_; (with_reducible refine (strings_CutSuffix.calls t111 (⟨#[93]⟩ : ByteArray) t113 false _ A4.out).mono ?_); rintro e w' ⟨rfl, ⟨nd, rfl⟩⟩; refine ⟨_, rfl, ?_⟩))
   go_ret
   exact ⟨rf, bl⟩
 ·replace c3 := Bool.eq_false_iff.mpr c3
  subst c3
  replace H : ((addr_domain_1__addr_label.f a0).bind fun t117 => (if t117 = true then (if (a0.size : Int) > 255 then (some 3) else ((addr_domain_1__addr_domain_2.f a0).bind fun t118 => (if t118 = true then (some 0) else (some 3)))) else (some 5))) = some r := by rw [if_neg (show ¬ (false = true) by decide)] at H; exact H
  obtain ⟨t117, A120, H⟩ := Option.bind_eq_some_iff.mp H
  replace H : (if t117 = true then (if (a0.size : Int) > 255 then (some 3) else ((addr_domain_1__addr_domain_2.f a0).bind fun t118 => (if t118 = true then (some 0) else (some 3)))) else (some 5)) = some r := H
  have A12 := Aside0.mk A120
  clear A120
  by_cases c13 : t117 = true
  ·subst c13
   replace H : (if (a0.size : Int) > 255 then (some 3) else ((addr_domain_1__addr_domain_2.f a0).bind fun t118 => (if t118 = true then (some 0) else (some 3)))) = some r := by rw [if_pos rfl] at H; exact H
   by_cases c14 : (a0.size : Int) > 255
   ·rw [if_pos c14] at H
    have c14b0 : decide (255 < (a0.size : Int)) = true := decide_eq_true c14
    have c14b1 : decide (255 < a0.size) = true := decide_eq_true (by omega)
    clear c14
    obtain rfl := Option.some.inj H
    go_enter Tryz.func59, Tryz.ntmps59
    go_wp2_with (first | ((with_reducible refine gate_callee (f := 30) rfl ?_); refine goesL_ (some 10) rfl rfl Tryz.func30 kf rfl #[.string a0, .string (⟨#[91]⟩ : ByteArray)] rfl ml ?_; (with_reducible refine (strings_CutPrefix.calls a0 (⟨#[91]⟩ : ByteArray) t111 false _ A2.out).mono ?_); rintro e w' ⟨rfl, ⟨nd, rfl⟩⟩; refine ⟨_, rfl, ?_⟩) | (go_at_call 86; (with_reducible refine (addr_domain_1__addr_label.calls a0 true _ ?side1 A12.out).mono ?_); (case side1 => exact Glob.below HG.out bl); rintro e w15 ⟨rfl, hb⟩; replace HB := Aside0.mk (below_step bl hb); (try clear hb); (try clear hb2); (try clear hk); (try clear hi)))
    go_ret
    exact ⟨rf, bl⟩
   ·rw [if_neg c14] at H
    have c14b0 : decide (255 < (a0.size : Int)) = false := decide_eq_false c14
    have c14b1 : decide (255 < a0.size) = false := decide_eq_false (by omega)
    clear c14
    obtain ⟨t118, A160, H⟩ := Option.bind_eq_some_iff.mp H
    replace H : (if t118 = true then (some 0) else (some 3)) = some r := H
    have A16 := Aside0.mk A160
    clear A160
    by_cases c17 : t118 = true
    ·subst c17
     replace H : (some 0) = some r := by rw [if_pos rfl] at H; exact H
     obtain rfl := Option.some.inj H
     go_enter Tryz.func59, Tryz.ntmps59
     go_wp2_with (first | ((with_reducible refine gate_callee (f := 30) rfl ?_); refine goesL_ (some 10) rfl rfl Tryz.func30 kf rfl #[.string a0, .string (⟨#[91]⟩ : ByteArray)] rfl ml ?_; (with_reducible refine (strings_CutPrefix.calls a0 (⟨#[91]⟩ : ByteArray) t111 false _ A2.out).mono ?_); rintro e w' ⟨rfl, ⟨nd, rfl⟩⟩; refine ⟨_, rfl, ?_⟩) | (go_at_call 86; (with_reducible refine (addr_domain_1__addr_label.calls a0 true _ ?side1 A12.out).mono ?_); (case side1 => exact Glob.below HG.out bl); rintro e w18 ⟨rfl, hb⟩; replace HB := Aside0.mk (below_step bl hb); (try clear hb); (try clear hb2); (try clear hk); (try clear hi)) | (go_at_call 86; (with_reducible refine (addr_domain_1__addr_domain_2.calls a0 true _ ?side1 A16.out).mono ?_); (case side1 => exact Glob.below HG.out bl); rintro e w19 ⟨rfl, hb⟩; replace HB := Aside0.mk (below_step bl hb); (try clear hb); (try clear hb2); (try clear hk); (try clear hi)))
     go_ret
     exact ⟨rf, bl⟩
    ·replace c17 := Bool.eq_false_iff.mpr c17
     subst c17
     replace H : (some 3) = some r := by rw [if_neg (show ¬ (false = true) by decide)] at H; exact H
     obtain rfl := Option.some.inj H
     go_enter Tryz.func59, Tryz.ntmps59
     go_wp2_with (first | ((with_reducible refine gate_callee (f := 30) rfl ?_); refine goesL_ (some 10) rfl rfl Tryz.func30 kf rfl #[.string a0, .string (⟨#[91]⟩ : ByteArray)] rfl ml ?_; (with_reducible refine (strings_CutPrefix.calls a0 (⟨#[91]⟩ : ByteArray) t111 false _ A2.out).mono ?_); rintro e w' ⟨rfl, ⟨nd, rfl⟩⟩; refine ⟨_, rfl, ?_⟩) | (go_at_call 86; (with_reducible refine (addr_domain_1__addr_label.calls a0 true _ ?side1 A12.out).mono ?_); (case side1 => exact Glob.below HG.out bl); rintro e w20 ⟨rfl, hb⟩; replace HB := Aside0.mk (below_step bl hb); (try clear hb); (try clear hb2); (try clear hk); (try clear hi)) | (go_at_call 86; (with_reducible refine (addr_domain_1__addr_domain_2.calls a0 false _ ?side1 A16.out).mono ?_); (case side1 => exact Glob.below HG.out bl); rintro e w21 ⟨rfl, hb⟩; replace HB := Aside0.mk (below_step bl hb); (try clear hb); (try clear hb2); (try clear hk); (try clear hi)))
     go_ret
     exact ⟨rf, bl⟩
  ·replace c13 := Bool.eq_false_iff.mpr c13
   subst c13
   replace H : (some 5) = some r := by rw [if_neg (show ¬ (false = true) by decide)] at H; exact H
   obtain rfl := Option.some.inj H
   go_enter Tryz.func59, Tryz.ntmps59
   go_wp2_with (first | ((with_reducible refine gate_callee (f := 30) rfl ?_); refine goesL_ (some 10) rfl rfl Tryz.func30 kf rfl #[.string a0, .string (⟨#[91]⟩ : ByteArray)] rfl ml ?_; (with_reducible refine (strings_CutPrefix.calls a0 (⟨#[91]⟩ : ByteArray) t111 false _ A2.out).mono ?_); rintro e w' ⟨rfl, ⟨nd, rfl⟩⟩; refine ⟨_, rfl, ?_⟩) | (go_at_call 86; (with_reducible refine (addr_domain_1__addr_label.calls a0 false _ ?side1 A12.out).mono ?_); (case side1 => exact Glob.below HG.out bl); rintro e w22 ⟨rfl, hb⟩; replace HB := Aside0.mk (below_step bl hb); (try clear hb); (try clear hb2); (try clear hk); (try clear hi)))
   go_ret
   exact ⟨rf, bl⟩

/-! ### addr_MayDomain: function 29 -/
def addr_MayDomain.f (a0 : ByteArray) : Option (Bool) := (addr_domain.f a0).bind fun t119 => (some (t119 == 0))
theorem addr_MayDomain.calls (a0 : ByteArray) (r : Bool) (w : World) (hG : Glob w) (h : addr_MayDomain.f a0 = some r) :
  Calls Tryz.prog 29 #[.string a0] w fun e w' => e = .returned (.bool r) ∧ Below w.heap.size w w' := by
 have HB := Aside0.mk (Below.refl w.heap.size w)
 have HG := Aside0.mk hG
 clear hG
 have H : ((addr_domain.f a0).bind fun t119 => (some (t119 == 0))) = some r := h
 clear h
 obtain ⟨t119, A20, H⟩ := Option.bind_eq_some_iff.mp H
 replace H : (some (t119 == 0)) = some r := H
 have A2 := Aside0.mk A20
 clear A20
 obtain rfl := Option.some.inj H
 go_enter Tryz.func29, Tryz.ntmps29
 go_wp2_with (first | ((with_reducible refine gate_callee (f := 59) rfl ?_); refine goesL_ (some 4) rfl rfl Tryz.func59 kf rfl #[.string a0] rfl ml ?_; (with_reducible refine (addr_domain.calls a0 t119 _ ?side1 A2.out).mono ?_); (case side1 => exact Glob.below HG.out bl); rintro e w3 ⟨rfl, hb⟩; refine ⟨_, rfl, ?_⟩; replace HB := Aside0.mk (below_step bl hb); (try clear hb); (try clear hb2); (try clear hk); (try clear hi)))
 go_ret
 exact ⟨rf, bl⟩

/-! ### addr_May: function 12 -/
def addr_May.f (a0_0 : ByteArray) (a0_1 : ByteArray) : Option (Bool) := if a0_0.toList = ([] : List UInt8) then (some false) else (if (a0_0.size : Int) ≤ 64 then ((text_Plain.f a0_0).bind fun t121 => (if t121 = true then ((addr_MayDomain.f a0_1).bind fun t122 => (some t122)) else (some false))) else (some false))
theorem addr_May.calls (a0_0 : ByteArray) (a0_1 : ByteArray) (r : Bool) (w : World) (hG : Glob w) (h : addr_May.f a0_0 a0_1 = some r) :
  Calls Tryz.prog 12 #[.agg #[.string a0_0, .string a0_1]] w fun e w' => e = .returned (.bool r) ∧ Below w.heap.size w w' := by
 have hu24 := Tryz.underlying24
 have HB := Aside0.mk (Below.refl w.heap.size w)
 have HG := Aside0.mk hG
 clear hG
 have H : (if a0_0.toList = ([] : List UInt8) then (some false) else (if (a0_0.size : Int) ≤ 64 then ((text_Plain.f a0_0).bind fun t121 => (if t121 = true then ((addr_MayDomain.f a0_1).bind fun t122 => (some t122)) else (some false))) else (some false))) = some r := h
 clear h
 by_cases c2 : a0_0.toList = ([] : List UInt8)
 ·rw [if_pos c2] at H
  have c2b0 : (a0_0.toList == ([] : List UInt8)) = true := beq_iff_eq.mpr c2
  have c2b1 : (a0_0.toList != ([] : List UInt8)) = false := bne_eq_false_iff_eq.mpr c2
  clear c2
  obtain rfl := Option.some.inj H
  go_enter Tryz.func12, Tryz.ntmps12
  go_wp2_with (first | ((with_reducible refine gate_dst (N := 1) rfl ?_); (try (refine gate_guard (by rfl) ?_; dsimp only)); refine box_event ?hg (N := 1) ?hd (cs := #[.string a0_0, .string a0_1]) (t := 24) ?hr ?_; (case hd => rfl); (case hg => rfl); (case hr => first | (go_simp; done) | (go_simp; rfl)); intro gb120 hg w3 hbox hb; have BK120 := Aside0.mk (hbox); have GW120 := Aside0.mk (gz hg : w.heap.size ≤ gb120); have GE120 := Aside0.mk (gz hg : w.heap.size ≤ gb120); replace HB := Aside0.mk (below_step bl hb); clear hb hbox hg; have hcz4_0 := cz BK120.out 0 (.string a0_0); have hcz4_1 := cz BK120.out 1 (.string a0_1); have hfz4_0 := blk_frozen BK120.out 0; have hfz4_1 := blk_frozen BK120.out 1))
  go_ret
  exact ⟨rf, bl⟩
 ·rw [if_neg c2] at H
  have c2b0 : (a0_0.toList == ([] : List UInt8)) = false := beq_eq_false_iff_ne.mpr c2
  have c2b1 : (a0_0.toList != ([] : List UInt8)) = true := bne_iff_ne.mpr c2
  by_cases c5 : (a0_0.size : Int) ≤ 64
  ·rw [if_pos c5] at H
   have c5b0 : decide ((a0_0.size : Int) ≤ 64) = true := decide_eq_true c5
   have c5b1 : decide (a0_0.size ≤ 64) = true := decide_eq_true (by omega)
   clear c5
   obtain ⟨t121, A60, H⟩ := Option.bind_eq_some_iff.mp H
   replace H : (if t121 = true then ((addr_MayDomain.f a0_1).bind fun t122 => (some t122)) else (some false)) = some r := H
   have A6 := Aside0.mk A60
   clear A60
   by_cases c7 : t121 = true
   ·subst c7
    replace H : ((addr_MayDomain.f a0_1).bind fun t122 => (some t122)) = some r := by rw [if_pos rfl] at H; exact H
    obtain ⟨t122, A80, H⟩ := Option.bind_eq_some_iff.mp H
    replace H : (some t122) = some r := H
    have A8 := Aside0.mk A80
    clear A80
    obtain rfl := Option.some.inj H
    go_enter Tryz.func12, Tryz.ntmps12
    go_wp2_with (first | ((with_reducible refine gate_dst (N := 1) rfl ?_); (try (refine gate_guard (by rfl) ?_; dsimp only)); refine box_event ?hg (N := 1) ?hd (cs := #[.string a0_0, .string a0_1]) (t := 24) ?hr ?_; (case hd => rfl); (case hg => rfl); (case hr => first | (go_simp; done) | (go_simp; rfl)); intro gb120 hg w9 hbox hb; have BK120 := Aside0.mk (hbox); have GW120 := Aside0.mk (gz hg : w.heap.size ≤ gb120); have GE120 := Aside0.mk (gz hg : w.heap.size ≤ gb120); replace HB := Aside0.mk (below_step bl hb); clear hb hbox hg; have hcz10_0 := cz BK120.out 0 (.string a0_0); have hcz10_1 := cz BK120.out 1 (.string a0_1); have hfz10_0 := blk_frozen BK120.out 0; have hfz10_1 := blk_frozen BK120.out 1) | (go_at_call 28; (with_reducible refine (text_Plain.calls a0_0 true _ A6.out).mono ?_); rintro e w11 ⟨rfl, hb⟩; replace BK120 := Aside0.mk (kb BK120.out hb); replace HB := Aside0.mk (below_step bl hb); (try clear hb); (try clear hb2); (try clear hk); (try clear hi); have hcz12_0 := cz BK120.out 0 (.string a0_0); have hcz12_1 := cz BK120.out 1 (.string a0_1); have hfz12_0 := blk_frozen BK120.out 0; have hfz12_1 := blk_frozen BK120.out 1) | (go_at_call 29; (with_reducible refine (addr_MayDomain.calls a0_1 t122 _ ?side1 A8.out).mono ?_); (case side1 => exact Glob.below HG.out bl); rintro e w13 ⟨rfl, hb⟩; replace BK120 := Aside0.mk (kb BK120.out hb); replace HB := Aside0.mk (below_step bl hb); (try clear hb); (try clear hb2); (try clear hk); (try clear hi)))
    go_ret
    exact ⟨rf, bl⟩
   ·replace c7 := Bool.eq_false_iff.mpr c7
    subst c7
    replace H : (some false) = some r := by rw [if_neg (show ¬ (false = true) by decide)] at H; exact H
    obtain rfl := Option.some.inj H
    go_enter Tryz.func12, Tryz.ntmps12
    go_wp2_with (first | ((with_reducible refine gate_dst (N := 1) rfl ?_); (try (refine gate_guard (by rfl) ?_; dsimp only)); refine box_event ?hg (N := 1) ?hd (cs := #[.string a0_0, .string a0_1]) (t := 24) ?hr ?_; (case hd => rfl); (case hg => rfl); (case hr => first | (go_simp; done) | (go_simp; rfl)); intro gb120 hg w14 hbox hb; have BK120 := Aside0.mk (hbox); have GW120 := Aside0.mk (gz hg : w.heap.size ≤ gb120); have GE120 := Aside0.mk (gz hg : w.heap.size ≤ gb120); replace HB := Aside0.mk (below_step bl hb); clear hb hbox hg; have hcz15_0 := cz BK120.out 0 (.string a0_0); have hcz15_1 := cz BK120.out 1 (.string a0_1); have hfz15_0 := blk_frozen BK120.out 0; have hfz15_1 := blk_frozen BK120.out 1) | (go_at_call 28; (with_reducible refine (text_Plain.calls a0_0 false _ A6.out).mono ?_); rintro e w16 ⟨rfl, hb⟩; replace BK120 := Aside0.mk (kb BK120.out hb); replace HB := Aside0.mk (below_step bl hb); (try clear hb); (try clear hb2); (try clear hk); (try clear hi)))
    go_ret
    exact ⟨rf, bl⟩
  ·rw [if_neg c5] at H
   have c5b0 : decide ((a0_0.size : Int) ≤ 64) = false := decide_eq_false c5
   have c5b1 : decide (a0_0.size ≤ 64) = false := decide_eq_false (by omega)
   clear c5
   obtain rfl := Option.some.inj H
   go_enter Tryz.func12, Tryz.ntmps12
   go_wp2_with (first | ((with_reducible refine gate_dst (N := 1) rfl ?_); (try (refine gate_guard (by rfl) ?_; dsimp only)); refine box_event ?hg (N := 1) ?hd (cs := #[.string a0_0, .string a0_1]) (t := 24) ?hr ?_; (case hd => rfl); (case hg => rfl); (case hr => first | (go_simp; done) | (go_simp; rfl)); intro gb120 hg w17 hbox hb; have BK120 := Aside0.mk (hbox); have GW120 := Aside0.mk (gz hg : w.heap.size ≤ gb120); have GE120 := Aside0.mk (gz hg : w.heap.size ≤ gb120); replace HB := Aside0.mk (below_step bl hb); clear hb hbox hg; have hcz18_0 := cz BK120.out 0 (.string a0_0); have hcz18_1 := cz BK120.out 1 (.string a0_1); have hfz18_0 := blk_frozen BK120.out 0; have hfz18_1 := blk_frozen BK120.out 1))
   go_ret
   exact ⟨rf, bl⟩

/-! ### strings_IndexByte: function 63 (by hand) -/
def strings_IndexByte.f (a0 : ByteArray) (a1 : Int) : Option Int := some (Lib.indexByte a0.data.toList a1.toNat.toUInt8)
theorem strings_IndexByte.calls (a0 : ByteArray) (a1 : Int) (r : Int) (w : World) (h : strings_IndexByte.f a0 a1 = some r) :
    Calls Tryz.prog 63 #[.string a0, .int .u8 a1] w fun e w' => e = .returned (.int .i64 r) ∧ Drawn0 w w' := by
  obtain rfl := Option.some.inj h
  refine (Tryz.strings_IndexByte a0 a1 w).mono ?_
  rintro e w' ⟨rfl, rfl⟩
  exact ⟨rfl, Drawn0.refl _⟩


/-! ### text_Split: function 43 -/
def text_Split.l0 : Nat → ByteArray → Int → List ByteArray → Option (List ByteArray)
 | 0, _, _, _ => none
 | k + 1, x0, x1, x5 => (strings_IndexByte.f x0 x1).bind fun t123 => (if t123 < 0 then (if x5.length < 8796093022208 then (some (x5 ++ [x0])) else (none)) else (if 0 ≤ t123 then (if t123 ≤ (x0.size : Int) then (if x5.length < 8796093022208 then (if 0 ≤ (wrap64 (t123 + 1)) then (if (wrap64 (t123 + 1)) ≤ (x0.size : Int) then (text_Split.l0 k (x0.extract ((wrap64 (t123 + 1)) : Int).toNat x0.size) x1 (x5 ++ [x0.extract 0 (t123 : Int).toNat])) else (none)) else (none)) else (none)) else (none)) else (none)))
def text_Split.f (k : Nat) (a0 : ByteArray) (a1 : Int) : Option (List ByteArray) := text_Split.l0 k a0 a1 ([] : List ByteArray)
theorem text_Split.mono_l : ∀ k, (∀ y0 y1 y2, LeO (text_Split.l0 k y0 y1 y2) (text_Split.l0 (k + 1) y0 y1 y2))
 | 0 => fun _ _ _ r h => by simp [text_Split.l0] at h
 | k + 1 => by
  have ih0 := text_Split.mono_l k
  ·intro y0 y1 y2
   unfold text_Split.l0
   repeat' first
   | (with_reducible first | exact ih0 _ _ _ | exact LeO.refl _ | exact LeO.none _ | refine LeO.ite ?_ ?_ | refine LeO.bind ?_ (fun _ => ?_))
theorem text_Split.mono : ∀ a0 a1 k, LeO (text_Split.f k a0 a1) (text_Split.f (k + 1) a0 a1) := by
 intro a0 a1 k
 have ih0 := text_Split.mono_l k
 unfold text_Split.f
 repeat' first
   | (with_reducible first | exact ih0 _ _ _ | exact LeO.refl _ | exact LeO.none _ | refine LeO.ite ?_ ?_ | refine LeO.bind ?_ (fun _ => ?_))
def text_Split.T5 : Bool × List (List Nat × List Nat) := (true, [([], []), ([], []), ([], []), ([1, 2], [1, 2]), ([3], [3]), ([0, 4], [0, 4]), ([], []), ([], []), ([7], [7]), ([6, 8], [6, 8]), ([5, 5, 0, 1, 2, 3, 4, 5], [0, 5]), ([9, 10, 0, 1, 2, 3, 4, 5, 6, 7, 8, 9, 10], [1, 6, 9])])
def text_Split.B5 : List Nat := [0, 0, 0, 6, 14, 31, 0, 0, 128, 448, 63, 2047]
theorem text_Split.tab5 : rtab .any (opsOf Tryz.f43 5) = text_Split.T5 := by kernel_rfl
theorem text_Split.bits5 : waitsOk text_Split.T5.2 text_Split.B5 = true := by kernel_rfl
theorem text_Split.calls (k : Nat) (a0 : ByteArray) (a1 : Int) (r : List ByteArray) (w : World) (h : text_Split.f k a0 a1 = some r) :
  Calls Tryz.prog 43 #[.string a0, .int .u8 a1] w fun e w' => ∃ v0_ : Value, e = .returned (v0_) ∧ Kd.R Kd.string 9 w' w.heap.size (fun _ => True) v0_ r ∧ Below w.heap.size w w' := by
 have HB := Aside0.mk (Below.refl w.heap.size w)
 have H : (text_Split.l0 k a0 a1 ([] : List ByteArray)) = some r := h
 clear h
 have H' := Aside0.mk H
 clear H
 go_enter Tryz.func43, Tryz.ntmps43
 go_wp2
 go_loopg [0, 5] k (fun kq v0 v5 w' => ∃ (x0_1 : ByteArray) (x5_1 : List ByteArray), v0 = .string x0_1 ∧ Aside0 (text_Split.l0 kq x0_1 a1 x5_1 = some r) ∧ Aside0 (kq ≤ k) ∧ Aside0 (Kd.R Kd.string 9 w' w.heap.size (fun _ => True) v5 x5_1) ∧ Aside0 (Below w.heap.size w w'))
 case atStart => exact ⟨(a0), (([] : List ByteArray)), rs, H', ⟨Nat.le_refl _⟩, ⟨by first | exact Kd.R_nil _ _ _ _ _ | exact Kd.N_nil _ _ _ _ _ | exact Kd.V_nil _ _ _ _ _ | exact Kd.Q_nil _ _ _ _ _ | exact Kd.S_nil _ _ _ _ _⟩, ⟨bl⟩⟩
 case round =>
  clear H'
  try clear p2
  obtain ⟨x0_1, x5_1, rfl, HA, HK1, HO_5, HB⟩ := hrel
  cases gk with
  | zero => exact absurd HA.out (by simp [text_Split.l0])
  | succ k1 =>
   have H := HA.out
   clear HA
   simp only [text_Split.l0] at H
   obtain ⟨t123, A30, H⟩ := Option.bind_eq_some_iff.mp H
   replace H : (if t123 < 0 then (if x5_1.length < 8796093022208 then (some (x5_1 ++ [x0_1])) else (none)) else (if 0 ≤ t123 then (if t123 ≤ (x0_1.size : Int) then (if x5_1.length < 8796093022208 then (if 0 ≤ (wrap64 (t123 + 1)) then (if (wrap64 (t123 + 1)) ≤ (x0_1.size : Int) then (text_Split.l0 k1 (x0_1.extract ((wrap64 (t123 + 1)) : Int).toNat x0_1.size) a1 (x5_1 ++ [x0_1.extract 0 (t123 : Int).toNat])) else (none)) else (none)) else (none)) else (none)) else (none))) = some r := H
   have A3 := Aside0.mk A30
   clear A30
   by_cases c4 : t123 < 0
   ·rw [if_pos c4] at H
    have c4b0 : decide (t123 < 0) = true := decide_eq_true c4
    clear c4
    by_cases c5 : x5_1.length < 8796093022208
    rotate_left
    ·rw [if_neg c5] at H
     exact ab H
    rw [if_pos c5] at H
    have LMc5 := Aside0.mk c5
    clear c5
    obtain ⟨y124, hy124⟩ : ∃ y_ : List ByteArray, y_ = (x5_1 ++ [x0_1]) := ⟨_, rfl⟩
    replace H : (some y124) = some r := by first | (rw [hy124]; with_reducible exact H) | (have H2_ := (Option.bind_some _ _).symm.trans H; rw [hy124]; with_reducible exact H2_) | (have H2_ := (Option.bind_some _ _).symm.trans H; with_reducible exact H2_) | with_reducible exact H | (rw [hy124]; exact H) | exact H
    have Ny124 := Aside0.mk hy124
    clear hy124
    obtain rfl := Option.some.inj H
    go_wp2_with (first | ((with_reducible refine gate_callee (f := 63) rfl ?_); refine goesL_ (some 9) rfl rfl Tryz.func63 kf rfl #[.string x0_1, .int .u8 a1] rfl ml ?_; (with_reducible refine (strings_IndexByte.calls x0_1 a1 t123 _ A3.out).mono ?_); rintro e w' ⟨rfl, ⟨nd, rfl⟩⟩; refine ⟨_, rfl, ?_⟩) | ((with_reducible refine gate_builtin (b := .append) (xs := #[.tmp 12, .tmp 14]) rfl ?_); at_builtin; refine Kd.R_append Kd.string (w0 := w) w.heap.size rfl (.tmp 12) (.tmp 14) 22 9 (.string ⟨#[]⟩) 16 rfl Tryz.underlying22 info9 rfl (by decide) (by omega) u5 x5_1 x0_1 [.string x0_1] (fun _ => True) (fun _ => False) rfl rfl ?aP (fun _ hk => hk.elim) ?aF ?aO ?aB ?aS ?aL ?_; (case aP => exact rfl); (case aB => exact bl); (case aF => exact (fun _ _ => trivial)); (case aO => exact (kr HO_5.out)); (case aS => exact (below_size bl)); (case aL => have := LMc5.out; omega); intro v125 w6 ho hb hg hat; rw [← Ny124.out] at ho; replace HB := Aside0.mk (hb); have HO126 := Aside0.mk (ho); clear HO_5 ho hb hg hat))
    go_ret
    exact ⟨_, by first | rfl | (simp [errW_none, errW_some] <;> rfl) | (simp [*, errW_none, errW_some] <;> rfl), kr HO126.out, bl⟩
   ·rw [if_neg c4] at H
    have c4b0 : decide (t123 < 0) = false := decide_eq_false c4
    clear c4
    by_cases c7 : 0 ≤ t123
    rotate_left
    ·rw [if_neg c7] at H
     exact ab H
    rw [if_pos c7] at H
    have c7b0 := eq_true c7
    have c7b1 : decide (0 ≤ t123) = true := decide_eq_true c7
    clear c7
    by_cases c8 : t123 ≤ (x0_1.size : Int)
    rotate_left
    ·rw [if_neg c8] at H
     exact ab H
    rw [if_pos c8] at H
    have c8b0 := eq_true c8
    have c8b1 : decide (t123 ≤ (x0_1.size : Int)) = true := decide_eq_true c8
    clear c8
    by_cases c9 : x5_1.length < 8796093022208
    rotate_left
    ·rw [if_neg c9] at H
     exact ab H
    rw [if_pos c9] at H
    have LMc9 := Aside0.mk c9
    clear c9
    obtain ⟨y127, hy127⟩ : ∃ y_ : List ByteArray, y_ = (x5_1 ++ [x0_1.extract 0 (t123 : Int).toNat]) := ⟨_, rfl⟩
    replace H : (if 0 ≤ (wrap64 (t123 + 1)) then (if (wrap64 (t123 + 1)) ≤ (x0_1.size : Int) then (text_Split.l0 k1 (x0_1.extract ((wrap64 (t123 + 1)) : Int).toNat x0_1.size) a1 y127) else (none)) else (none)) = some r := by first | (rw [hy127]; with_reducible exact H) | (have H2_ := (Option.bind_some _ _).symm.trans H; rw [hy127]; with_reducible exact H2_) | (have H2_ := (Option.bind_some _ _).symm.trans H; with_reducible exact H2_) | with_reducible exact H | (rw [hy127]; exact H) | exact H
    have Ny127 := Aside0.mk hy127
    clear hy127
    obtain ⟨ji10, hji10⟩ : ∃ j_ : Int, (wrap64 (t123 + 1)) = j_ := ⟨_, rfl⟩
    replace H : (if 0 ≤ (ji10) then (if (ji10) ≤ (x0_1.size : Int) then (text_Split.l0 k1 (x0_1.extract ((ji10) : Int).toNat x0_1.size) a1 y127) else (none)) else (none)) = some r := by first | (rw [hji10] at H; exact H) | (simp only [hji10] at H ⊢; exact H)
    (try rw [hji10] at A3)
    have hji10w : (IntKind.i64.wrap (t123 + 1)) = ji10 := (i64_w _).trans hji10
    by_cases c11 : 0 ≤ (ji10)
    rotate_left
    ·rw [if_neg c11] at H
     exact ab H
    rw [if_pos c11] at H
    have c11b0 := eq_true c11
    have c11b1 : decide (0 ≤ (ji10)) = true := decide_eq_true c11
    clear c11
    by_cases c12 : (ji10) ≤ (x0_1.size : Int)
    rotate_left
    ·rw [if_neg c12] at H
     exact ab H
    rw [if_pos c12] at H
    have c12b0 := eq_true c12
    have c12b1 : decide ((ji10) ≤ (x0_1.size : Int)) = true := decide_eq_true c12
    clear c12
    have H' := Aside0.mk H
    clear H
    try go_wp2_with (first | ((with_reducible refine gate_callee (f := 63) rfl ?_); refine goesL_ (some 9) rfl rfl Tryz.func63 kf rfl #[.string x0_1, .int .u8 a1] rfl ml ?_; (with_reducible refine (strings_IndexByte.calls x0_1 a1 t123 _ A3.out).mono ?_); rintro e w' ⟨rfl, ⟨nd, rfl⟩⟩; refine ⟨_, rfl, ?_⟩))
    (try (rw [drewN_self wr]; generalize hq_ : World.drewN wr _ = wr; have n0_ : Aside0 (Kd.R Kd.string 9 wr w.heap.size (fun _ => True) u5 x5_1) := ⟨by rw [← hq_]; exact (kr HO_5.out)⟩; have n1_ : Aside0 (Below w.heap.size w wr) := ⟨by rw [← hq_]; exact bl⟩; clear HO_5 HB hq_; have HO_5 := n0_; have HB := n1_; clear n0_ n1_))
    replace HO_5 := Aside0.mk (Kd.R_drew HO_5.out)
    replace HB := Aside0.mk (below_drew1 HB.out)
    refine start_ (n := 12) (S := fun w' => True) (ds := []) #[false, false, false, false, false, false, false, false, false, false, false, false] kf rfl rfl trivial (fun hHeld => ?_); refine with_tabW text_Split.tab5 text_Split.bits5 (fun HT_ HW_ => ?_)
    generalize wr.drew = w13 at HO_5 HB hHeld ⊢
    refine pure_ (i := 0) (N := some 16) (v := ?_) (a' := ?_) #[true, false, false, false, false, false, false, false, false, false, false, false] rfl rfl (any_of HT_.out kf) (fun _ _ _ h => h) (Or.inl ⟨by rfl, ?_⟩) ?_ ?_
    rotate_left
    ·intro w'
     go_simp
     with_reducible rfl
    rotate_left
    ·simp only [Act.put, sA, sB, sC, i64_w, i32_w]
     rfl
    refine pure_ (i := 1) (N := some 17) (v := ?_) (a' := ?_) #[true, true, false, false, false, false, false, false, false, false, false, false] rfl rfl (any_of HT_.out kf) (fun _ _ _ h => h) (Or.inl ⟨by rfl, ?_⟩) ?_ ?_
    rotate_left
    ·intro w'
     go_simp
     with_reducible rfl
    rotate_left
    ·simp only [Act.put, sA, sB, sC, i64_w, i32_w]
     rfl
    refine pure_ (i := 2) (N := some 18) (v := ?_) (a' := ?_) #[true, true, true, false, false, false, false, false, false, false, false, false] rfl rfl (any_of HT_.out kf) (fun _ _ _ h => h) (Or.inl ⟨by rfl, ?_⟩) ?_ ?_
    rotate_left
    ·intro w'
     go_simp
     with_reducible rfl
    rotate_left
    ·simp only [Act.put, sA, sB, sC, i64_w, i32_w]
     rfl
    refine pure_ (i := 3) (N := some 19) (v := ?_) (a' := ?_) #[true, true, true, true, false, false, false, false, false, false, false, false] rfl rfl (any_of HT_.out kf) (fun _ _ _ h => h) (Or.inl ⟨by rfl, ?_⟩) ?_ ?_
    rotate_left
    ·intro w'
     go_simp
     with_reducible rfl
    rotate_left
    ·simp only [Act.put, sA, sB, sC, i64_w, i32_w]
     rfl
    refine pure_ (i := 6) (N := some 22) (v := ?_) (a' := ?_) #[true, true, true, true, false, false, true, false, false, false, false, false] rfl rfl (any_of HT_.out kf) (fun _ _ _ h => h) (Or.inl ⟨by rfl, ?_⟩) ?_ ?_
    rotate_left
    ·intro w'
     go_simp
     with_reducible rfl
    rotate_left
    ·simp only [Act.put, sA, sB, sC, i64_w, i32_w]
     rfl
    refine pure_ (i := 7) (N := some 23) (v := ?_) (a' := ?_) #[true, true, true, true, false, false, true, true, false, false, false, false] rfl rfl (any_of HT_.out kf) (fun _ _ _ h => h) (Or.inl ⟨by rfl, ?_⟩) ?_ ?_
    rotate_left
    ·intro w'
     go_simp
     with_reducible rfl
    rotate_left
    ·simp only [Act.put, sA, sB, sC, i64_w, i32_w]
     rfl
    refine pure_ (i := 8) (N := some 24) (v := ?_) (a' := ?_) #[true, true, true, true, false, false, true, true, true, false, false, false] rfl rfl (any_of HT_.out kf) (fun _ _ _ h => h) (Or.inl ⟨by rfl, ?_⟩) ?_ ?_
    rotate_left
    ·intro w'
     go_simp
     with_reducible rfl
    rotate_left
    ·simp only [Act.put, sA, sB, sC, i64_w, i32_w]
     rfl
    refine pure_ (i := 9) (N := some 25) (v := ?_) (a' := ?_) #[true, true, true, true, false, false, true, true, true, true, false, false] rfl rfl (any_of HT_.out kf) (fun _ _ _ h => h) (Or.inl ⟨by rfl, ?_⟩) ?_ ?_
    rotate_left
    ·intro w'
     go_simp
     with_reducible rfl
    rotate_left
    ·simp only [Act.put, sA, sB, sC, i64_w, i32_w]
     rfl
    refine one_ (i := 4) (N := some 20) #[true, true, true, true, true, false, true, true, true, true, false, false] rfl rfl (one_of HT_.out kf) (by decide) (fun K hK => ?_)
    refine value_ (w1 := ?_) (v := ?_) (by rfl) rfl ?_ ?_
    rotate_left 2
    ·go_simp
     constructor
     ·rfl
     ·rfl
    refine hK.out _ _ trivial (fun hHeld => ?_)
    clear hK K
    refine norm_ (a' := ?_) ?_ ?_
    rotate_left
    ·show Act.put _ (some 20) _ = _
     simp only [Act.put, sA, sB, sC, i64_w, i32_w]
     rfl
    refine one_ (i := 5) (N := some 21) #[true, true, true, true, true, true, true, true, true, true, false, false] rfl rfl (one_of HT_.out kf) (by decide) (fun K hK => ?_)
    refine Kd.R_append_step Kd.string (w0 := w) w.heap.size (by rfl) (.tmp 16) (.tmp 20) 22 9 (.string ⟨#[]⟩) 16 rfl Tryz.underlying22 info9 rfl (by decide) (by omega) u5 x5_1 (x0_1.extract 0 (t123 : Int).toNat) [.string (x0_1.extract 0 (t123 : Int).toNat)] (fun _ => True) (fun _ => False) rfl rfl ?aP (fun _ hk => hk.elim) ?aF ?aO ?aB ?aS ?aL ?_
    (case aP => exact rfl)
    (case aB => exact bl)
    (case aF => exact (fun _ _ => trivial))
    (case aO => exact (kr HO_5.out))
    (case aS => exact (below_size bl))
    (case aL => have := LMc9.out; omega)
    intro v128 w14 ho hb hg hat
    rw [← Ny127.out] at ho
    replace HB := Aside0.mk (hb)
    have HO129 := Aside0.mk (ho)
    clear HO_5 ho hb hg hat
    refine hK.out _ _ trivial (fun hHeld => ?_)
    clear hK K
    refine norm_ (a' := ?_) ?_ ?_
    rotate_left
    ·show Act.put _ (some 21) _ = _
     simp only [Act.put, sA, sB, sC, i64_w, i32_w]
     rfl
    refine pure_ (i := 10) (N := some 5) (v := ?_) (a' := ?_) #[true, true, true, true, true, true, true, true, true, true, true, false] rfl rfl (any_of HT_.out kf) (fun _ _ _ h => h) (Or.inl ⟨by rfl, ?_⟩) ?_ ?_
    rotate_left
    ·intro w'
     go_simp
     with_reducible rfl
    rotate_left
    ·simp only [Act.put, sA, sB, sC, i64_w, i32_w]
     rfl
    refine pure_ (i := 11) (N := some 0) (v := ?_) (a' := ?_) #[true, true, true, true, true, true, true, true, true, true, true, true] rfl rfl (any_of HT_.out kf) (fun _ _ _ h => h) (Or.inl ⟨by rfl, ?_⟩) ?_ ?_
    rotate_left
    ·intro w'
     go_simp
     with_reducible rfl
    rotate_left
    ·simp only [Act.put, sA, sB, sC, i64_w, i32_w]
     rfl
    refine done_ (done_of HT_.out kf) ?_
    try go_wp2
    go_roundg k1
    case measure => have := HK1.out; omega
    case rel => exact ⟨(x0_1.extract ((ji10) : Int).toNat x0_1.size), (y127), (by first | rfl | (simp; done) | (simp only [← hji10] <;> (first | rfl | simp)) | (simp [*]; done)), H', ⟨by have := HK1.out; omega⟩, ⟨kr HO129.out⟩, ⟨bl⟩⟩

/-! ### text_atomic: function 104 (by hand) -/
def letL : List UInt8 := [33, 35, 36, 37, 38, 39, 42, 43, 45, 47, 61, 63, 94, 95, 96, 123, 124, 125, 126]
def letN (n : Nat) : Bool := (decide (97 ≤ n) && decide (n ≤ 122)) || (decide (65 ≤ n) && decide (n ≤ 90)) || (decide (48 ≤ n) && decide (n ≤ 57)) || letL.any fun c => c.toNat == n
def text_atomic.f (a0 : Int) : Option Bool := if 0 ≤ a0 then (if a0 ≤ 255 then some (letN a0.toNat) else none) else none
theorem let_tab0 : ∀ n, n < 32 → letN n = false := by decide +kernel
theorem let_tab1 : ∀ n, n < 32 → ((Go.bits .and .u32 (2751442170 / 2 ^ n) 1 == 1) = letN (32 + n)) := by decide +kernel
theorem let_tab2 : ∀ n, n < 32 → ((Go.bits .and .u32 (3355443198 / 2 ^ n) 1 == 1) = letN (64 + n)) := by decide +kernel
theorem let_tab3 : ∀ n, n < 32 → ((Go.bits .and .u32 (2147483647 / 2 ^ n) 1 == 1) = letN (96 + n)) := by decide +kernel
theorem let_high : ∀ n, 128 ≤ n → letN n = false := by
  intro n h
  unfold letN letL
  simp
  omega
theorem text_atomic.calls (a0 : Int) (r : Bool) (w : World) (hG : Glob w) (h : text_atomic.f a0 = some r) :
    Calls Tryz.prog 104 #[.int .u8 a0] w fun e w' => e = .returned (.bool r) ∧ Drawn0 w w' := by
  unfold text_atomic.f at h
  by_cases h0 : 0 ≤ a0
  · rw [if_pos h0] at h
    by_cases h1 : a0 ≤ 255
    · rw [if_pos h1] at h
      obtain ⟨n, rfl⟩ := Int.eq_ofNat_of_zero_le h0
      rw [Int.toNat_natCast] at h
      have hr := Lib.hid (Option.some.inj h)
      clear h
      have g0 := hG.a0
      have g1 := hG.a1
      have g2 := hG.a2
      have g3 := hG.a3
      clear hG
      by_cases hn : n < 128
      · have hb : decide ((n : Int) < 128) = true := decide_eq_true (by omega)
        have hcase : n / 32 = 0 ∨ n / 32 = 1 ∨ n / 32 = 2 ∨ n / 32 = 3 := by omega
        rcases hcase with hq | hq | hq | hq
        · have hl : letN n = false := let_tab0 n (by omega)
          rw [hl] at hr
          go_enter Tryz.func104, Tryz.ntmps104
          go_wp2
          go_ret
          refine ⟨?_, Drawn0.refl _⟩
          rw [← hr.out]
          rfl
        · have hl : letN n = (Go.bits .and .u32 (2751442170 / 2 ^ (n % 32)) 1 == 1) := by rw [let_tab1 _ (Nat.mod_lt _ (by omega))]; congr 1; omega
          rw [hl] at hr
          go_enter Tryz.func104, Tryz.ntmps104
          go_wp2
          go_ret
          refine ⟨?_, Drawn0.refl _⟩
          rw [← hr.out]
          rfl
        · have hl : letN n = (Go.bits .and .u32 (3355443198 / 2 ^ (n % 32)) 1 == 1) := by rw [let_tab2 _ (Nat.mod_lt _ (by omega))]; congr 1; omega
          rw [hl] at hr
          go_enter Tryz.func104, Tryz.ntmps104
          go_wp2
          go_ret
          refine ⟨?_, Drawn0.refl _⟩
          rw [← hr.out]
          rfl
        · have hl : letN n = (Go.bits .and .u32 (2147483647 / 2 ^ (n % 32)) 1 == 1) := by rw [let_tab3 _ (Nat.mod_lt _ (by omega))]; congr 1; omega
          rw [hl] at hr
          go_enter Tryz.func104, Tryz.ntmps104
          go_wp2
          go_ret
          refine ⟨?_, Drawn0.refl _⟩
          rw [← hr.out]
          rfl
      · have hb : decide ((n : Int) < 128) = false := decide_eq_false (by omega)
        rw [let_high n (by omega)] at hr
        go_enter Tryz.func104, Tryz.ntmps104
        go_wp2
        go_ret
        refine ⟨?_, Drawn0.refl _⟩
        rw [← hr.out]
        rfl
    · rw [if_neg h1] at h; cases h
  · rw [if_neg h0] at h; cases h


/-! ### text_Atom: function 81 (by hand) -/
def letC (c : UInt8) : Bool := letN c.toNat
def atomB (s : ByteArray) : Bool := !s.data.toList.isEmpty && s.data.toList.all letC
def text_Atom.f (a0 : ByteArray) : Option Bool := if a0.size < 70368744177000 then some (atomB a0) else none
theorem bytes_cell_at2 {W w1 : World} {g e : Nat} {s : ByteArray} {C : Array Value} {fz : Nat × Nat} (h : W.heap[g]? = some (.cells C e fz)) (hC : C = Lib.bytesCells w1 e s) (j : Nat) (hj : j < s.size) : W.cell? ⟨g, j, none⟩ = some (.int .u8 ((s[j]'hj).toNat : Nat)) := by
  subst hC
  simp [World.cell?, h, Lib.bytesCells, Array.getElem?_append, hj]
  rfl
theorem atom_not (c : Nat) (hc : c < 256) (w : World) (hG : Glob w) :
    Calls Tryz.prog 103 #[.int .u8 c] w fun e w' => e = .returned (.bool (!letN c)) ∧ Drawn0 w w' := by
  have hf : text_atomic.f (c : Int) = some (letN c) := by unfold text_atomic.f; rw [if_pos (by omega), if_pos (by omega), Int.toNat_natCast]
  have Hf := Lib.hid hf
  clear hf
  have HG := Lib.hid hG
  clear hG
  generalize letN c = b at Hf ⊢
  go_enter Tryz.func103, Tryz.ntmps103
  go_wp2_with (go_at_call 104; refine (text_atomic.calls (c : Int) b _ HG.out Hf.out).mono ?_; rintro e w1 ⟨rfl, ⟨nd, rfl⟩⟩)
  go_ret
  exact ⟨rfl, ⟨nd, rfl⟩⟩
/-- What IndexFunc tells here. -/
def AtomIdx (s : ByteArray) (w : World) (e : Ending) (w' : World) : Prop := ∃ r : Int, e = .returned (.int .i64 r) ∧ decide (0 ≤ r) = !s.data.toList.all letC ∧ Drawn0 w w'
theorem all_take (s : ByteArray) (k : Nat) (h : k < s.size) (p : UInt8 → Bool) : (s.data.toList.take (k + 1)).all p = ((s.data.toList.take k).all p && p (s[k]'h)) := by
  rw [List.take_succ_eq_append_getElem (by simpa using h), List.all_append]
  simp
  rfl
theorem all_not (s : ByteArray) (k : Nat) (h : k < s.size) (p : UInt8 → Bool) (hb : p (s[k]'h) = false) : s.data.toList.all p = false := by
  rw [Bool.eq_false_iff]
  intro ha
  rw [List.all_eq_true] at ha
  have := ha (s[k]'h) (by
    have h' : k < s.data.toList.length := by simpa using h
    have e : s.data.toList[k]'h' = s[k]'h := by simp; rfl
    rw [← e]; exact List.getElem_mem h')
  rw [hb] at this
  cases this
theorem atom_idx (s : ByteArray) (hs : s.size ≤ 70368744177000) (g cap : Nat) (fz : Nat × Nat) (C : Array Value) (w1 w : World) (hC : C = Lib.bytesCells w1 5 s) (hh : w.heap[g]? = some (.cells C 5 fz)) (hG : Glob w) :
    Calls Tryz.prog 99 #[.slice (some ⟨g, 0, none⟩) s.size cap, .func (.func 103) #[] #[]] w (AtomIdx s w) := by
  have HC := Lib.hid hC
  have HH := Lib.hid hh
  have HG := Lib.hid hG
  clear hC hh hG
  go_enter Tryz.func99, Tryz.ntmps99
  go_wp2
  go_loopw [8] (fun v8 w' => ∃ k : Nat, v8 = .int .i64 k ∧ k ≤ s.size ∧ Aside0 ((s.data.toList.take k).all letC = true) ∧ Drawn0 w w') (fun v8 _ => s.size - (intOf v8).toNat)
  case atStart => exact ⟨0, rfl, Nat.zero_le _, ⟨rfl⟩, Drawn0.refl _⟩
  case round =>
    obtain ⟨k, rfl, hk, Hall, ⟨nd, rfl⟩⟩ := hrel
    by_cases hlt : k < s.size
    · have hcell : (w.drewN nd).cell? ⟨g, k, none⟩ = some (.int .u8 ((s[k]'hlt).toNat : Nat)) := bytes_cell_at2 (W := w.drewN nd) HH.out HC.out k hlt
      have hst := Lib.hid (all_take s k hlt letC)
      have hnt := Lib.hid (all_not s k hlt letC)
      have hc256 : (s[k]'hlt).toNat < 256 := UInt8.toNat_lt _
      unfold letC at hst hnt
      obtain ⟨c, hc⟩ : ∃ c : Nat, c = (s[k]'hlt).toNat := ⟨_, rfl⟩
      rw [← hc] at hcell hc256 hst hnt
      clear hc
      cases hb : letN c with
      | true =>
        have Hb := Lib.hid hb
        clear hb
        have HGd : Hid (Glob (w.drewN nd)) := Lib.hid (HG.out.drawn ⟨nd, rfl⟩)
        go_wp2_with (refine (atom_not c hc256 _ HGd.out).mono ?_; rw [Hb.out]; rintro e w1 ⟨rfl, ⟨nd2, rfl⟩⟩)
        go_roundw
        case rel => exact ⟨k + 1, by go_num, hlt, ⟨by have := hst.out; rw [Hb.out] at this; unfold letC at Hall ⊢; rw [this, Hall.out]; rfl⟩, ⟨⟨_, rfl⟩⟩⟩
        case measure => simp [intOf]; omega
      | false =>
        have Hb := Lib.hid hb
        clear hb
        have HGd : Hid (Glob (w.drewN nd)) := Lib.hid (HG.out.drawn ⟨nd, rfl⟩)
        go_wp2_with (refine (atom_not c hc256 _ HGd.out).mono ?_; rw [Hb.out]; rintro e w1 ⟨rfl, ⟨nd2, rfl⟩⟩)
        go_ret
        refine ⟨(k : Int), rfl, ?_, ⟨⟨_, rfl⟩⟩⟩
        unfold letC
        rw [hnt.out Hb.out]
        exact decide_eq_true (by omega)
    · go_wp2
      go_ret
      have e : k = s.size := by omega
      subst e
      have := Hall.out
      rw [List.take_of_length_le (by simp)] at this
      refine ⟨-1, rfl, ?_, ⟨⟨nd, rfl⟩⟩⟩
      rw [this]; rfl
theorem atom_has (s : ByteArray) (hs : s.size ≤ 70368744177000) (g cap : Nat) (fz : Nat × Nat) (C : Array Value) (w1 w : World) (hC : C = Lib.bytesCells w1 5 s) (hh : w.heap[g]? = some (.cells C 5 fz)) (hG : Glob w) :
    Calls Tryz.prog 74 #[.slice (some ⟨g, 0, none⟩) s.size cap, .func (.func 103) #[] #[]] w fun e w' => e = .returned (.bool (!s.data.toList.all letC)) ∧ Drawn0 w w' := by
  have HI := Lib.hid (atom_idx s hs g cap fz C w1 w hC hh hG)
  clear hC hh hG
  generalize ha : s.data.toList.all letC = b
  have Ha := Lib.hid ha
  clear ha
  go_enter Tryz.func74, Tryz.ntmps74
  go_wp2_with (go_at_call 99; refine HI.out.mono ?_; rintro e w1 ⟨i, rfl, hi, ⟨nd, rfl⟩⟩; rw [Ha.out] at hi)
  go_ret
  exact ⟨by simp [hi], ⟨nd, rfl⟩⟩
theorem text_Atom.calls (a0 : ByteArray) (r : Bool) (w : World) (hG : Glob w) (h : text_Atom.f a0 = some r) :
    Calls Tryz.prog 81 #[.string a0] w fun e w' => e = .returned (.bool r) ∧ Below w.heap.size w w' := by
  unfold text_Atom.f at h
  by_cases hsz : a0.size < 70368744177000
  · rw [if_pos hsz] at h
    have hr := Lib.hid (Option.some.inj h)
    clear h
    by_cases he : a0.toList = ([] : List UInt8)
    · have hb : (a0.toList == ([] : List UInt8)) = true := beq_iff_eq.mpr he
      have hb2 : (a0.toList != ([] : List UInt8)) = false := bne_eq_false_iff_eq.mpr he
      have hb3 : a0.toList.isEmpty = true := by rw [he]; rfl
      have hf : atomB a0 = false := by
        unfold atomB; rw [← ByteArray.toList_eq, he]; rfl
      rw [hf] at hr
      clear he hf
      go_enter Tryz.func81, Tryz.ntmps81
      go_wp2
      go_ret
      exact ⟨by rw [← hr.out]; rfl, Below.refl _ _⟩
    · have hb : (a0.toList == ([] : List UInt8)) = false := beq_eq_false_iff_ne.mpr he
      have hb2 : (a0.toList != ([] : List UInt8)) = true := bne_iff_ne.mpr he
      have hb3 : a0.toList.isEmpty = false := by cases h : a0.toList <;> simp_all
      have hf : atomB a0 = !(!a0.data.toList.all letC) := by
        unfold atomB; rw [← ByteArray.toList_eq, hb3, ByteArray.toList_eq]; simp
      rw [hf] at hr
      clear he hf
      have hcv := fun W => print_bytes (P := Tryz.prog) 9 55 5 Tryz.underlying9 Tryz.underlying55 Tryz.underlying5 a0 W
      have HB := Lib.hid (bytes_below (Below.refl w.heap.size w) (Nat.le_refl _) 5 a0)
      have HA := Lib.hid (atom_has a0 (by omega) w.heap.size (grownCap w a0.size 0 5) _ _ w _ rfl (Lib.bytesWorld_at_new w 5 a0) (hG.below HB.out))
      clear hG
      generalize (!a0.data.toList.all letC) = b at HA hr
      go_enter Tryz.func81, Tryz.ntmps81
      go_wp2_with (go_at_call 74; refine HA.out.mono ?_; rintro e w1 ⟨rfl, ⟨nd, rfl⟩⟩)
      go_ret
      exact ⟨by rw [← hr.out]; rfl, pw_below_drewN HB.out _⟩
  · rw [if_neg hsz] at h; cases h


end Go.Proofs.YtgelfnjicglmbaaGreatDoor.Q
end
section
namespace Go.Proofs.YtgelfnjicglmbaaGreatDoor.Q

/-! ### text_DotAtom: function 52 (by hand) -/
def dotAll (l : List ByteArray) : Bool := l.all atomB
def dotSmall (l : List ByteArray) : Bool := l.all fun x => decide (x.size < 70368744177000)
def text_DotAtom.f (k : Nat) (a0 : ByteArray) : Option Bool := (text_Split.f k a0 46).bind fun t => if dotSmall t = true then some (dotAll t) else none
theorem text_DotAtom.mono : ∀ a0 k, LeO (text_DotAtom.f k a0) (text_DotAtom.f (k + 1) a0) := fun a0 k => LeO.bind (text_Split.mono _ _ k) (fun _ => LeO.refl _)
theorem dot_not (s : ByteArray) (hs : s.size < 70368744177000) (w : World) (hG : Glob w) :
    Calls Tryz.prog 80 #[.string s] w fun e w' => e = .returned (.bool (!atomB s)) ∧ Below w.heap.size w w' := by
  have hf : text_Atom.f s = some (atomB s) := by unfold text_Atom.f; rw [if_pos hs]
  have Hf := Lib.hid hf
  clear hf
  have HG := Lib.hid hG
  clear hG
  generalize atomB s = b at Hf ⊢
  go_enter Tryz.func80, Tryz.ntmps80
  go_wp2_with (go_at_call 81; refine (text_Atom.calls s b _ HG.out Hf.out).mono ?_; rintro e w1 ⟨rfl, hb⟩)
  go_ret
  exact ⟨rfl, hb⟩
def DotIdx (l : List ByteArray) (w : World) (e : Ending) (w' : World) : Prop := ∃ r : Int, e = .returned (.int .i64 r) ∧ decide (0 ≤ r) = !dotAll l ∧ Below w.heap.size w w'
theorem dot_take (l : List ByteArray) (k : Nat) (h : k < l.length) : dotAll (l.take (k + 1)) = (dotAll (l.take k) && atomB l[k]) := by
  unfold dotAll
  rw [List.take_succ_eq_append_getElem h, List.all_append]
  simp
theorem dot_no (l : List ByteArray) (k : Nat) (h : k < l.length) (hb : atomB l[k] = false) : dotAll l = false := by
  unfold dotAll
  rw [Bool.eq_false_iff]
  intro ha
  have := List.all_eq_true.1 ha l[k] (List.getElem_mem h)
  rw [hb] at this
  cases this
theorem dot_idx (l : List ByteArray) (hs : dotSmall l = true) (hl : l.length ≤ 9223372036854775807) (A : Option Addr) (c : Nat) (w : World) (hC : ReadsOf Value.string ByteArray.empty w A l.length l) (hG : Glob w) :
    Calls Tryz.prog 102 #[.slice A l.length c, .func (.func 80) #[] #[]] w (DotIdx l w) := by
  have HS := Lib.hid hs
  have HC := Lib.hid hC
  have HG := Lib.hid hG
  clear hs hC hG
  go_enter Tryz.func102, Tryz.ntmps102
  go_wp2
  go_loopw [8] (fun v8 w' => ∃ k : Nat, v8 = .int .i64 k ∧ k ≤ l.length ∧ Aside0 (dotAll (l.take k) = true) ∧ Aside0 (Below w.heap.size w w')) (fun v8 _ => l.length - (intOf v8).toNat)
  case atStart => exact ⟨0, rfl, Nat.zero_le _, ⟨rfl⟩, ⟨Below.refl _ _⟩⟩
  case round =>
    obtain ⟨k, rfl, hk, Hall, HB⟩ := hrel
    by_cases hlt : k < l.length
    · obtain ⟨ad, hA, hcell⟩ := (HC.out.below HB.out).at_ (k : Int) (by omega) (by omega)
      rw [Int.toNat_natCast] at hcell
      have ex : rdOf ByteArray.empty l (k : Int) = l[k]'hlt := by simp [rdOf, hlt]
      rw [ex] at hcell
      clear ex
      have hst := Lib.hid (dot_take l k hlt)
      have hnt := Lib.hid (dot_no l k hlt)
      have hsm : (l[k]'hlt).size < 70368744177000 := by
        have := List.all_eq_true.1 HS.out (l[k]'hlt) (List.getElem_mem hlt)
        simpa using this
      obtain ⟨x, hx⟩ : ∃ x : ByteArray, x = l[k]'hlt := ⟨_, rfl⟩
      rw [← hx] at hcell hst hnt hsm
      clear hx
      have HGw : Hid (Glob wr) := Lib.hid (HG.out.below HB.out)
      have HSm := Lib.hid hsm
      clear hsm
      cases hb : atomB x with
      | true =>
        have Hb := Lib.hid hb
        clear hb
        subst hA
        go_wp2_with (refine (dot_not x HSm.out _ HGw.out).mono ?_; rw [Hb.out]; rintro e w1 ⟨rfl, hb1⟩; have HB1 := Lib.hid hb1; clear hb1)
        go_roundw
        case rel => exact ⟨k + 1, by go_num, hlt, ⟨by rw [hst.out, Hall.out, Hb.out]; rfl⟩, ⟨HB.out.trans (HB1.out.mono HB.out.size)⟩⟩
        case measure => simp [intOf]; omega
      | false =>
        have Hb := Lib.hid hb
        clear hb
        subst hA
        go_wp2_with (refine (dot_not x HSm.out _ HGw.out).mono ?_; rw [Hb.out]; rintro e w1 ⟨rfl, hb1⟩; have HB1 := Lib.hid hb1; clear hb1)
        go_ret
        refine ⟨(k : Int), rfl, ?_, HB.out.trans (HB1.out.mono HB.out.size)⟩
        rw [hnt.out Hb.out]
        exact decide_eq_true (by omega)
    · go_wp2
      go_ret
      have e : k = l.length := by omega
      subst e
      have := Hall.out
      rw [List.take_of_length_le (Nat.le_refl _)] at this
      refine ⟨-1, rfl, ?_, HB.out⟩
      rw [this]; rfl
theorem dot_has (l : List ByteArray) (hs : dotSmall l = true) (hl : l.length ≤ 9223372036854775807) (A : Option Addr) (c : Nat) (w : World) (hC : ReadsOf Value.string ByteArray.empty w A l.length l) (hG : Glob w) :
    Calls Tryz.prog 79 #[.slice A l.length c, .func (.func 80) #[] #[]] w fun e w' => e = .returned (.bool (!dotAll l)) ∧ Below w.heap.size w w' := by
  have HI := Lib.hid (dot_idx l hs hl A c w hC hG)
  clear hC hs hG hl
  generalize ha : dotAll l = b
  have Ha := Lib.hid ha
  clear ha
  go_enter Tryz.func79, Tryz.ntmps79
  go_wp2_with (go_at_call 102; refine HI.out.mono ?_; rintro e w1 ⟨i, rfl, hi, hb⟩; rw [Ha.out] at hi; have HB1 := Lib.hid hb; clear hb)
  go_ret
  exact ⟨by simp [hi], HB1.out⟩
theorem text_DotAtom.calls (k : Nat) (a0 : ByteArray) (r : Bool) (w : World) (hG : Glob w) (h : text_DotAtom.f k a0 = some r) :
    Calls Tryz.prog 52 #[.string a0] w fun e w' => e = .returned (.bool r) ∧ Below w.heap.size w w' := by
  unfold text_DotAtom.f at h
  obtain ⟨l, hl, h⟩ := Option.bind_eq_some_iff.mp h
  by_cases hs : dotSmall l = true
  · rw [if_pos hs] at h
    have hr := Lib.hid (Option.some.inj h)
    clear h
    have HL := Lib.hid hl
    have HS := Lib.hid hs
    have HG := Lib.hid hG
    clear hl hs hG
    go_enter Tryz.func52, Tryz.ntmps52
    go_wp2_with (first | (go_at_call 43; refine (text_Split.calls k a0 46 l _ HL.out).mono ?_; rintro e w1 ⟨v, rfl, ho, hb⟩; obtain ⟨A, c, rfl, hc, hC⟩ := Kd.R_reads ho; have HB := Lib.hid hb; have hrd : ReadsOf Value.string ByteArray.empty w1 A l.length l := Kd.reads_of_C hC; have HH := Lib.hid (dot_has l HS.out hrd.2.1 A c w1 hrd (HG.out.below hb)); clear ho hb hC hc hrd) | (go_at_call 79; refine HH.out.mono ?_; rintro e w2 ⟨rfl, hb2⟩; have HB2 := Lib.hid hb2; clear hb2))
    go_ret
    exact ⟨by rw [← hr.out]; simp, HB.out.trans (HB2.out.mono HB.out.size)⟩
  · rw [if_neg hs] at h; cases h


/-! ### text_Quote: function 53 (by hand) -/
def quoteC (c : UInt8) : List UInt8 := if c = 34 ∨ c = 92 then [92, c] else [c]
def quoteM (l : List UInt8) : List UInt8 := l.flatMap quoteC
def quoteL (l : List UInt8) : List UInt8 := 34 :: (quoteM l ++ [34])
def quoteB (s : ByteArray) : ByteArray := ⟨(quoteL s.data.toList).toArray⟩
def numsOf (l : List UInt8) : List Int := l.map fun b => (b.toNat : Int)
def quoteN (l : List UInt8) : List Int := 34 :: numsOf (quoteM l)
def text_Quote.f (a0 : ByteArray) : Option (ByteArray × Int) := if a0.size < 70368744177000 then (if plainB a0 = true then some (quoteB a0, 0) else some ((⟨#[]⟩ : ByteArray), 5)) else none
theorem quoteC_len (c : UInt8) : (quoteC c).length ≤ 2 := by unfold quoteC; split <;> simp
theorem quoteM_len (l : List UInt8) : (quoteM l).length ≤ 2 * l.length := by
  unfold quoteM
  induction l with
  | nil => simp
  | cons c l ih => simp only [List.flatMap_cons, List.length_append, List.length_cons]; have := quoteC_len c; omega
theorem quoteN_len (l : List UInt8) : (quoteN l).length ≤ 2 * l.length + 1 := by
  unfold quoteN numsOf; simp; have := quoteM_len l; omega
theorem quoteN_snoc2 (s : ByteArray) (k : Nat) (h : k < s.size) (hc : (s[k]'h) = 34 ∨ (s[k]'h) = 92) : quoteN (s.data.toList.take (k + 1)) = (quoteN (s.data.toList.take k) ++ [92]) ++ [((s[k]'h).toNat : Int)] := by
  rw [List.take_succ_eq_append_getElem (by simpa using h)]
  have e : (s.data.toList[k]'(by simpa using h)) = s[k]'h := by simp; rfl
  rw [e]
  simp [quoteN, quoteM, numsOf, quoteC, hc]
theorem quoteN_snoc1 (s : ByteArray) (k : Nat) (h : k < s.size) (hc : ¬ ((s[k]'h) = 34 ∨ (s[k]'h) = 92)) : quoteN (s.data.toList.take (k + 1)) = quoteN (s.data.toList.take k) ++ [((s[k]'h).toNat : Int)] := by
  rw [List.take_succ_eq_append_getElem (by simpa using h)]
  have e : (s.data.toList[k]'(by simpa using h)) = s[k]'h := by simp; rfl
  rw [e]
  simp [quoteN, quoteM, numsOf, quoteC, hc]
theorem quote_str (s : ByteArray) : strOfNums (quoteN s.data.toList ++ [34]) = quoteB s := by
  unfold strOfNums quoteN quoteB quoteL numsOf
  simp [List.map_map, Function.comp_def]
theorem bytes_cell_at {W w1 : World} {g e : Nat} {s : ByteArray} {C : Array Value} {fz : Nat × Nat} (h : W.heap[g]? = some (.cells C e fz)) (hC : C = Lib.bytesCells w1 e s) (j : Nat) (hj : j < s.size) : W.cell? ⟨g, j, none⟩ = some (.int .u8 ((s[j]'hj).toNat : Nat)) := by
  subst hC
  simp [World.cell?, h, Lib.bytesCells, Array.getElem?_append, hj]
  rfl
theorem text_Quote.calls (a0 : ByteArray) (r1 : ByteArray) (r2 : Int) (w : World) (h : text_Quote.f a0 = some (r1, r2)) :
    Calls Tryz.prog 53 #[.string a0] w fun e w' => e = .returned (.tuple #[.string r1, .int .i64 r2]) ∧ Below w.heap.size w w' := by
  unfold text_Quote.f at h
  by_cases hsz : a0.size < 70368744177000
  · rw [if_pos hsz] at h
    by_cases hp : plainB a0 = true
    · rw [if_pos hp] at h
      simp only [Option.some.injEq, Prod.mk.injEq] at h
      obtain ⟨rfl, rfl⟩ := h
      have Hp := Lib.hid hp
      clear hp
      go_enter Tryz.func53, Tryz.ntmps53
      have hcv := fun W => print_bytes (P := Tryz.prog) 9 55 5 Tryz.underlying9 Tryz.underlying55 Tryz.underlying5 a0 W
      go_wp2_with (first | (go_at_call 28; refine (text_Plain.calls a0 true _ (by unfold text_Plain.f; rw [Hp.out])).mono ?_; rintro e w1 ⟨rfl, hb⟩) | ((with_reducible refine gate_dst (N := 10) rfl ?_); refine Kd.R_lit (Kd.int .u8) (w0 := w) w.heap.size 5 ?hg (N := 10) ?hd (xs := [34]) (inner := [.int .u8 34]) (ok := fun _ => True) (okp := fun _ => True) ?hr ?hp (fun _ hk => hk) trivial hb hb.size (by simp) ?_; (case hd => rfl); (case hg => rfl); (case hr => first | (go_simp; done) | (go_simp; rfl)); (case hp => exact (Reps.one (show Kd.M (Kd.int .u8) _ _ _ 34 [.int .u8 34] from rfl) (Reps.none _ _))); intro v2 w2 ho hb2 hg_ hnew_))
      clear hcv
      obtain ⟨w3, hw3⟩ : ∃ w3, w3 = Lib.bytesWorld w2 5 a0 := ⟨_, rfl⟩
      rw [← hw3]
      have HG := Aside0.mk (Lib.bytesWorld_at_new w2 5 a0)
      have HO := Aside0.mk (Kd.R_below (Kd.R_mono (ok' := fun j => j ≠ w2.heap.size) (Kd.R_bound ho) (fun j hj => by have := hj.2.2.1; omega)) (bytes_below (Below.refl _ _) (Nat.le_refl _) 5 a0))
      have HB := Aside0.mk (bytes_below hb2 hb2.size 5 a0)
      have HS := Aside0.mk (show w2.heap.size < (Lib.bytesWorld w2 5 a0).heap.size by rw [Lib.bytesWorld_size]; omega)
      rw [← hw3] at HG HO HB HS
      have HE := Lib.hid hw3
      clear hw3 ho hb2 hg_ hnew_ hb
      generalize grownCap w2 a0.size 0 5 = cap
      obtain ⟨C, hC⟩ : ∃ C, C = Lib.bytesCells w2 5 a0 := ⟨_, rfl⟩
      obtain ⟨fz, hfz⟩ : ∃ fz : Nat × Nat, fz = (C.size, C.size + 1) := ⟨_, rfl⟩
      rw [← hC, ← hfz] at HG
      have HC := Lib.hid hC
      clear hC hfz
      obtain ⟨g, hg⟩ : ∃ g, g = w2.heap.size := ⟨_, rfl⟩
      rw [← hg] at HG HO HS ⊢
      clear hg
      go_loopw [4, 14] (fun v4 v14 w' => ∃ (k : Nat), v14 = .int .i64 k ∧ k ≤ a0.size ∧ Aside0 (Kd.R (Kd.int .u8) 5 w' w.heap.size (fun j => j ≠ g) v4 (quoteN (a0.data.toList.take k))) ∧ Aside0 (w'.heap[g]? = some (.cells C 5 fz)) ∧ Aside0 (Below w.heap.size w w')) (fun _ v14 _ => a0.size - (intOf v14).toNat)
      case atStart => exact ⟨0, rfl, Nat.zero_le _, ⟨HO.out⟩, ⟨HG.out⟩, ⟨HB.out⟩⟩
      case round =>
        clear HO HG HB HS
        obtain ⟨k, rfl, hk, HO, HG, HB⟩ := hrel
        have HS := Aside0.mk (blk_lt HG.out)
        have HL := Aside0.mk (Nat.le_trans (quoteN_len (a0.data.toList.take k)) (show 2 * (a0.data.toList.take k).length + 1 ≤ 140737488354001 by have := List.length_take_le k a0.data.toList; omega))
        by_cases hlt : k < a0.size
        · have hcell : wr.cell? ⟨g, k, none⟩ = some (.int .u8 ((a0[k]'hlt).toNat : Nat)) := bytes_cell_at HG.out HC.out k hlt
          by_cases hc : (a0[k]'hlt) = 34 ∨ (a0[k]'hlt) = 92
          · have Hs := Lib.hid (quoteN_snoc2 a0 k hlt hc)
            obtain ⟨c, hcc⟩ : ∃ c : Nat, c = (a0[k]'hlt).toNat := ⟨_, rfl⟩
            have hc' : c = 34 ∨ c = 92 := by rcases hc with h | h <;> (rw [hcc, h]; simp)
            rw [← hcc] at hcell Hs
            clear hc
            have Hcc := Lib.hid hcc
            clear hcc
            rcases hc' with rfl | rfl
            · go_wp2_with (first | ((with_reducible refine gate_builtin (b := .append) (xs := #[.tmp 24, .tmp 25]) rfl ?_); at_builtin; refine Kd.R_append (Kd.int .u8) (w0 := w) w.heap.size rfl (.tmp 24) (.tmp 25) 55 5 (.int .u8 0) 1 rfl Tryz.underlying55 info5 rfl (by decide) (by omega) u4 (quoteN (a0.data.toList.take k)) 92 [.int .u8 92] (fun j => j ≠ g) (fun _ => False) rfl rfl ?aP (fun _ hk => hk.elim) ?aF ?aO ?aB ?aS ?aL ?_; (case aP => exact rfl); (case aB => exact HB.out); (case aF => exact (fun j hj => by have := blk_lt HG.out; omega)); (case aO => exact HO.out); (case aS => exact (HB.out).size); (case aL => have := HL.out; (try simp only [List.length_append, List.length_singleton]); omega); intro v5 w5 ho hb hg hat; have HO5 := Aside0.mk ho; have HB5 := Aside0.mk hb; have HG5 := Aside0.mk (blk_grown HG.out hg (Kd.R_away HO.out (fun _ h => h))); clear ho hb hg hat) | ((with_reducible refine gate_builtin (b := .append) (xs := #[.tmp 27, .tmp 29]) rfl ?_); at_builtin; refine Kd.R_append (Kd.int .u8) (w0 := w) w.heap.size rfl (.tmp 27) (.tmp 29) 55 5 (.int .u8 0) 1 rfl Tryz.underlying55 info5 rfl (by decide) (by omega) v5 ((quoteN (a0.data.toList.take k)) ++ [92]) 34 [.int .u8 34] (fun j => j ≠ g) (fun _ => False) rfl rfl ?aP (fun _ hk => hk.elim) ?aF ?aO ?aB ?aS ?aL ?_; (case aP => exact rfl); (case aB => exact HB5.out); (case aF => exact (fun j hj => by have := blk_lt HG5.out; omega)); (case aO => exact HO5.out); (case aS => exact (HB5.out).size); (case aL => have := HL.out; (try simp only [List.length_append, List.length_singleton]); omega); intro v6 w6 ho hb hg hat; have HO6 := Aside0.mk ho; have HB6 := Aside0.mk hb; have HG6 := Aside0.mk (blk_grown HG5.out hg (Kd.R_away HO5.out (fun _ h => h))); clear ho hb hg hat))
              go_roundw
              case rel => exact ⟨k + 1, by go_num, hlt, ⟨by rw [Hs.out]; exact HO6.out⟩, ⟨HG6.out⟩, ⟨HB6.out⟩⟩
              case measure => simp [intOf]; omega
            · go_wp2_with (first | ((with_reducible refine gate_builtin (b := .append) (xs := #[.tmp 24, .tmp 25]) rfl ?_); at_builtin; refine Kd.R_append (Kd.int .u8) (w0 := w) w.heap.size rfl (.tmp 24) (.tmp 25) 55 5 (.int .u8 0) 1 rfl Tryz.underlying55 info5 rfl (by decide) (by omega) u4 (quoteN (a0.data.toList.take k)) 92 [.int .u8 92] (fun j => j ≠ g) (fun _ => False) rfl rfl ?aP (fun _ hk => hk.elim) ?aF ?aO ?aB ?aS ?aL ?_; (case aP => exact rfl); (case aB => exact HB.out); (case aF => exact (fun j hj => by have := blk_lt HG.out; omega)); (case aO => exact HO.out); (case aS => exact (HB.out).size); (case aL => have := HL.out; (try simp only [List.length_append, List.length_singleton]); omega); intro v5 w5 ho hb hg hat; have HO5 := Aside0.mk ho; have HB5 := Aside0.mk hb; have HG5 := Aside0.mk (blk_grown HG.out hg (Kd.R_away HO.out (fun _ h => h))); clear ho hb hg hat) | ((with_reducible refine gate_builtin (b := .append) (xs := #[.tmp 27, .tmp 29]) rfl ?_); at_builtin; refine Kd.R_append (Kd.int .u8) (w0 := w) w.heap.size rfl (.tmp 27) (.tmp 29) 55 5 (.int .u8 0) 1 rfl Tryz.underlying55 info5 rfl (by decide) (by omega) v5 ((quoteN (a0.data.toList.take k)) ++ [92]) 92 [.int .u8 92] (fun j => j ≠ g) (fun _ => False) rfl rfl ?aP (fun _ hk => hk.elim) ?aF ?aO ?aB ?aS ?aL ?_; (case aP => exact rfl); (case aB => exact HB5.out); (case aF => exact (fun j hj => by have := blk_lt HG5.out; omega)); (case aO => exact HO5.out); (case aS => exact (HB5.out).size); (case aL => have := HL.out; (try simp only [List.length_append, List.length_singleton]); omega); intro v6 w6 ho hb hg hat; have HO6 := Aside0.mk ho; have HB6 := Aside0.mk hb; have HG6 := Aside0.mk (blk_grown HG5.out hg (Kd.R_away HO5.out (fun _ h => h))); clear ho hb hg hat))
              go_roundw
              case rel => exact ⟨k + 1, by go_num, hlt, ⟨by rw [Hs.out]; exact HO6.out⟩, ⟨HG6.out⟩, ⟨HB6.out⟩⟩
              case measure => simp [intOf]; omega
          · have Hs := Lib.hid (quoteN_snoc1 a0 k hlt hc)
            obtain ⟨c, hcc⟩ : ∃ c : Nat, c = (a0[k]'hlt).toNat := ⟨_, rfl⟩
            have h1 : ¬ c = 34 := fun h => hc (.inl (UInt8.toNat_inj.mp (by rw [← hcc, h]; rfl)))
            have h2 : ¬ c = 92 := fun h => hc (.inr (UInt8.toNat_inj.mp (by rw [← hcc, h]; rfl)))
            have h1b : ((c : Int) == 34) = false := beq_eq_false_iff_ne.mpr (by omega)
            have h2b : ((c : Int) == 92) = false := beq_eq_false_iff_ne.mpr (by omega)
            rw [← hcc] at hcell Hs
            clear hc h1 h2
            have Hcc := Lib.hid hcc
            clear hcc
            go_wp2_with (first | ((with_reducible refine gate_builtin (b := .append) (xs := #[.tmp 27, .tmp 29]) rfl ?_); at_builtin; refine Kd.R_append (Kd.int .u8) (w0 := w) w.heap.size rfl (.tmp 27) (.tmp 29) 55 5 (.int .u8 0) 1 rfl Tryz.underlying55 info5 rfl (by decide) (by omega) u4 (quoteN (a0.data.toList.take k)) (c : Int) [.int .u8 (c : Int)] (fun j => j ≠ g) (fun _ => False) rfl rfl ?aP (fun _ hk => hk.elim) ?aF ?aO ?aB ?aS ?aL ?_; (case aP => exact rfl); (case aB => exact HB.out); (case aF => exact (fun j hj => by have := blk_lt HG.out; omega)); (case aO => exact HO.out); (case aS => exact (HB.out).size); (case aL => have := HL.out; (try simp only [List.length_append, List.length_singleton]); omega); intro v5 w5 ho hb hg hat; have HO5 := Aside0.mk ho; have HB5 := Aside0.mk hb; have HG5 := Aside0.mk (blk_grown HG.out hg (Kd.R_away HO.out (fun _ h => h))); clear ho hb hg hat))
            go_roundw
            case rel => exact ⟨k + 1, by go_num, hlt, ⟨by rw [Hs.out]; exact HO5.out⟩, ⟨HG5.out⟩, ⟨HB5.out⟩⟩
            case measure => simp [intOf]; omega
        · have hk' : k = a0.size := by omega
          subst hk'
          have HF := Lib.hid (show quoteN (a0.data.toList.take a0.size) = quoteN a0.data.toList by rw [List.take_of_length_le (by simp)])
          go_wp2_with (first | ((with_reducible refine gate_builtin (b := .append) (xs := #[.tmp 32, .tmp 33]) rfl ?_); at_builtin; refine Kd.R_append (Kd.int .u8) (w0 := w) w.heap.size rfl (.tmp 32) (.tmp 33) 55 5 (.int .u8 0) 1 rfl Tryz.underlying55 info5 rfl (by decide) (by omega) u4 (quoteN (a0.data.toList.take a0.size)) 34 [.int .u8 34] (fun j => j ≠ g) (fun _ => False) rfl rfl ?aP (fun _ hk => hk.elim) ?aF ?aO ?aB ?aS ?aL ?_; (case aP => exact rfl); (case aB => exact HB.out); (case aF => exact (fun j hj => by have := blk_lt HG.out; omega)); (case aO => exact HO.out); (case aS => exact (HB.out).size); (case aL => have := HL.out; (try simp only [List.length_append, List.length_singleton]); omega); intro v5 w5 ho hb hg hat; have hcs := own_string (P := Tryz.prog) Tryz.underlying55 Tryz.underlying5 Tryz.underlying9 (Kd.own_of_R ho); have HB5 := Aside0.mk hb; clear ho hb hg hat))
          go_ret2
          refine ⟨?_, HB5.out⟩
          rw [HF.out, quote_str]
          rfl
    · rw [if_neg hp] at h
      simp only [Option.some.injEq, Prod.mk.injEq] at h
      obtain ⟨rfl, rfl⟩ := h
      have Hp := Lib.hid (Bool.eq_false_iff.mpr hp)
      clear hp
      go_enter Tryz.func53, Tryz.ntmps53
      go_wp2_with (go_at_call 28; refine (text_Plain.calls a0 false _ (by unfold text_Plain.f; rw [Hp.out])).mono ?_; rintro e w1 ⟨rfl, hb⟩)
      go_ret2
      exact ⟨rfl, hb⟩
  · rw [if_neg hsz] at h
    exact absurd h (by simp)


/-! ### addr_Text: function 25 -/
def addr_Text.f (k : Nat) (a0_0 : ByteArray) (a0_1 : ByteArray) : Option (ByteArray) := (addr_May.f a0_0 a0_1).bind fun t131 => (if t131 = true then ((text_DotAtom.f k a0_0).bind fun t132 => (if t132 = true then (if a0_0.size + 1 ≤ 9223372036854775807 then (if (a0_0 ++ (⟨#[64]⟩ : ByteArray)).size + a0_1.size ≤ 9223372036854775807 then (some ((a0_0 ++ (⟨#[64]⟩ : ByteArray)) ++ a0_1)) else (none)) else (none)) else ((text_Quote.f a0_0).bind fun bt133 => (if bt133.1.size + 1 ≤ 9223372036854775807 then (if (bt133.1 ++ (⟨#[64]⟩ : ByteArray)).size + a0_1.size ≤ 9223372036854775807 then (some ((bt133.1 ++ (⟨#[64]⟩ : ByteArray)) ++ a0_1)) else (none)) else (none))))) else (some (⟨#[]⟩ : ByteArray)))
theorem addr_Text.mono : ∀ a0 a1 k, LeO (addr_Text.f k a0 a1) (addr_Text.f (k + 1) a0 a1) := by
 intro a0 a1 k
 unfold addr_Text.f
 repeat' first
   | (with_reducible first | exact text_DotAtom.mono _ _ | exact LeO.refl _ | exact LeO.none _ | refine LeO.ite ?_ ?_ | refine LeO.bind ?_ (fun _ => ?_))
theorem addr_Text.calls (k : Nat) (a0_0 : ByteArray) (a0_1 : ByteArray) (r : ByteArray) (w : World) (hG : Glob w) (h : addr_Text.f k a0_0 a0_1 = some r) :
  Calls Tryz.prog 25 #[.agg #[.string a0_0, .string a0_1]] w fun e w' => e = .returned (.string r) ∧ Below w.heap.size w w' := by
 have hu24 := Tryz.underlying24
 have HB := Aside0.mk (Below.refl w.heap.size w)
 have HG := Aside0.mk hG
 clear hG
 have H : ((addr_May.f a0_0 a0_1).bind fun t131 => (if t131 = true then ((text_DotAtom.f k a0_0).bind fun t132 => (if t132 = true then (if a0_0.size + 1 ≤ 9223372036854775807 then (if (a0_0 ++ (⟨#[64]⟩ : ByteArray)).size + a0_1.size ≤ 9223372036854775807 then (some ((a0_0 ++ (⟨#[64]⟩ : ByteArray)) ++ a0_1)) else (none)) else (none)) else ((text_Quote.f a0_0).bind fun bt133 => (if bt133.1.size + 1 ≤ 9223372036854775807 then (if (bt133.1 ++ (⟨#[64]⟩ : ByteArray)).size + a0_1.size ≤ 9223372036854775807 then (some ((bt133.1 ++ (⟨#[64]⟩ : ByteArray)) ++ a0_1)) else (none)) else (none))))) else (some (⟨#[]⟩ : ByteArray)))) = some r := h
 clear h
 obtain ⟨t131, A20, H⟩ := Option.bind_eq_some_iff.mp H
 replace H : (if t131 = true then ((text_DotAtom.f k a0_0).bind fun t132 => (if t132 = true then (if a0_0.size + 1 ≤ 9223372036854775807 then (if (a0_0 ++ (⟨#[64]⟩ : ByteArray)).size + a0_1.size ≤ 9223372036854775807 then (some ((a0_0 ++ (⟨#[64]⟩ : ByteArray)) ++ a0_1)) else (none)) else (none)) else ((text_Quote.f a0_0).bind fun bt133 => (if bt133.1.size + 1 ≤ 9223372036854775807 then (if (bt133.1 ++ (⟨#[64]⟩ : ByteArray)).size + a0_1.size ≤ 9223372036854775807 then (some ((bt133.1 ++ (⟨#[64]⟩ : ByteArray)) ++ a0_1)) else (none)) else (none))))) else (some (⟨#[]⟩ : ByteArray))) = some r := H
 have A2 := Aside0.mk A20
 clear A20
 by_cases c3 : t131 = true
 ·subst c3
  replace H : ((text_DotAtom.f k a0_0).bind fun t132 => (if t132 = true then (if a0_0.size + 1 ≤ 9223372036854775807 then (if (a0_0 ++ (⟨#[64]⟩ : ByteArray)).size + a0_1.size ≤ 9223372036854775807 then (some ((a0_0 ++ (⟨#[64]⟩ : ByteArray)) ++ a0_1)) else (none)) else (none)) else ((text_Quote.f a0_0).bind fun bt133 => (if bt133.1.size + 1 ≤ 9223372036854775807 then (if (bt133.1 ++ (⟨#[64]⟩ : ByteArray)).size + a0_1.size ≤ 9223372036854775807 then (some ((bt133.1 ++ (⟨#[64]⟩ : ByteArray)) ++ a0_1)) else (none)) else (none))))) = some r := by rw [if_pos rfl] at H; exact H
  obtain ⟨t132, A40, H⟩ := Option.bind_eq_some_iff.mp H
  replace H : (if t132 = true then (if a0_0.size + 1 ≤ 9223372036854775807 then (if (a0_0 ++ (⟨#[64]⟩ : ByteArray)).size + a0_1.size ≤ 9223372036854775807 then (some ((a0_0 ++ (⟨#[64]⟩ : ByteArray)) ++ a0_1)) else (none)) else (none)) else ((text_Quote.f a0_0).bind fun bt133 => (if bt133.1.size + 1 ≤ 9223372036854775807 then (if (bt133.1 ++ (⟨#[64]⟩ : ByteArray)).size + a0_1.size ≤ 9223372036854775807 then (some ((bt133.1 ++ (⟨#[64]⟩ : ByteArray)) ++ a0_1)) else (none)) else (none)))) = some r := H
  have A4 := Aside0.mk A40
  clear A40
  by_cases c5 : t132 = true
  ·subst c5
   replace H : (if a0_0.size + 1 ≤ 9223372036854775807 then (if (a0_0 ++ (⟨#[64]⟩ : ByteArray)).size + a0_1.size ≤ 9223372036854775807 then (some ((a0_0 ++ (⟨#[64]⟩ : ByteArray)) ++ a0_1)) else (none)) else (none)) = some r := by rw [if_pos rfl] at H; exact H
   by_cases c6 : a0_0.size + 1 ≤ 9223372036854775807
   rotate_left
   ·rw [if_neg c6] at H
    exact ab H
   rw [if_pos c6] at H
   have c6b0 := eq_true c6
   have c6b1 : decide (a0_0.size + 1 ≤ 9223372036854775807) = true := decide_eq_true c6
   try have c6b2 : (9223372036854775807 < a0_0.size + 1) = False := eq_false (Nat.not_lt.2 c6)
   by_cases c7 : (a0_0 ++ (⟨#[64]⟩ : ByteArray)).size + a0_1.size ≤ 9223372036854775807
   rotate_left
   ·rw [if_neg c7] at H
    exact ab H
   rw [if_pos c7] at H
   have c7b0 := eq_true c7
   have c7b1 : decide ((a0_0 ++ (⟨#[64]⟩ : ByteArray)).size + a0_1.size ≤ 9223372036854775807) = true := decide_eq_true c7
   try have c7b2 : (9223372036854775807 < (a0_0 ++ (⟨#[64]⟩ : ByteArray)).size + a0_1.size) = False := eq_false (Nat.not_lt.2 c7)
   try (have c7b2y := c7b2; rw [ByteArray.size_append] at c7b2y)
   try have c7b2z : (9223372036854775807 < a0_0.size + 1 + a0_1.size) = False := eq_false (fun h_ => by have g_ := c7; simp only [ByteArray.size_append, show (⟨#[64]⟩ : ByteArray).size = 1 from rfl] at g_; omega)
   obtain rfl := Option.some.inj H
   go_enter Tryz.func25, Tryz.ntmps25
   go_wp2_with (first | ((with_reducible refine gate_dst (N := 1) rfl ?_); refine box_event ?hg (N := 1) ?hd (cs := #[.string a0_0, .string a0_1]) (t := 24) ?hr ?_; (case hd => rfl); (case hg => rfl); (case hr => first | (go_simp; done) | (go_simp; rfl)); intro gb130 hg w8 hbox hb; have BK130 := Aside0.mk (hbox); have GW130 := Aside0.mk (gz hg : w.heap.size ≤ gb130); have GE130 := Aside0.mk (gz hg : w.heap.size ≤ gb130); replace HB := Aside0.mk (below_step bl hb); clear hb hbox hg; have hcz9_0 := cz BK130.out 0 (.string a0_0); have hcz9_1 := cz BK130.out 1 (.string a0_1); have hfz9_0 := blk_frozen BK130.out 0; have hfz9_1 := blk_frozen BK130.out 1) | ((with_reducible refine gate_callee (f := 12) rfl ?_); refine goesL_ (some 5) rfl rfl Tryz.func12 kf rfl #[.agg #[.string a0_0, .string a0_1]] rfl ml ?_; (with_reducible refine (addr_May.calls a0_0 a0_1 true _ ?side1 A2.out).mono ?_); (case side1 => exact Glob.below HG.out bl); rintro e w10 ⟨rfl, hb⟩; refine ⟨_, rfl, ?_⟩; replace BK130 := Aside0.mk (kb BK130.out hb); replace HB := Aside0.mk (below_step bl hb); (try clear hb); (try clear hb2); (try clear hk); (try clear hi); have hcz11_0 := cz BK130.out 0 (.string a0_0); have hcz11_1 := cz BK130.out 1 (.string a0_1); have hfz11_0 := blk_frozen BK130.out 0; have hfz11_1 := blk_frozen BK130.out 1) | ((with_reducible refine gate_callee (f := 52) rfl ?_); refine goesL_ (some 10) rfl rfl Tryz.func52 kf rfl #[.string a0_0] rfl ml ?_; (with_reducible refine (text_DotAtom.calls k a0_0 true _ ?side1 A4.out).mono ?_); (case side1 => exact Glob.below HG.out bl); rintro e w12 ⟨rfl, hb⟩; refine ⟨_, rfl, ?_⟩; replace BK130 := Aside0.mk (kb BK130.out hb); replace HB := Aside0.mk (below_step bl hb); (try clear hb); (try clear hb2); (try clear hk); (try clear hi); have hcz13_0 := cz BK130.out 0 (.string a0_0); have hcz13_1 := cz BK130.out 1 (.string a0_1); have hfz13_0 := blk_frozen BK130.out 0; have hfz13_1 := blk_frozen BK130.out 1))
   go_ret
   exact ⟨rf, bl⟩
  ·replace c5 := Bool.eq_false_iff.mpr c5
   subst c5
   replace H : ((text_Quote.f a0_0).bind fun bt133 => (if bt133.1.size + 1 ≤ 9223372036854775807 then (if (bt133.1 ++ (⟨#[64]⟩ : ByteArray)).size + a0_1.size ≤ 9223372036854775807 then (some ((bt133.1 ++ (⟨#[64]⟩ : ByteArray)) ++ a0_1)) else (none)) else (none))) = some r := by rw [if_neg (show ¬ (false = true) by decide)] at H; exact H
   obtain ⟨⟨t133, t134⟩, A140, H⟩ := Option.bind_eq_some_iff.mp H
   replace H : (if t133.size + 1 ≤ 9223372036854775807 then (if (t133 ++ (⟨#[64]⟩ : ByteArray)).size + a0_1.size ≤ 9223372036854775807 then (some ((t133 ++ (⟨#[64]⟩ : ByteArray)) ++ a0_1)) else (none)) else (none)) = some r := H
   have A14 := Aside0.mk A140
   clear A140
   by_cases c15 : t133.size + 1 ≤ 9223372036854775807
   rotate_left
   ·rw [if_neg c15] at H
    exact ab H
   rw [if_pos c15] at H
   have c15b0 := eq_true c15
   have c15b1 : decide (t133.size + 1 ≤ 9223372036854775807) = true := decide_eq_true c15
   try have c15b2 : (9223372036854775807 < t133.size + 1) = False := eq_false (Nat.not_lt.2 c15)
   by_cases c16 : (t133 ++ (⟨#[64]⟩ : ByteArray)).size + a0_1.size ≤ 9223372036854775807
   rotate_left
   ·rw [if_neg c16] at H
    exact ab H
   rw [if_pos c16] at H
   have c16b0 := eq_true c16
   have c16b1 : decide ((t133 ++ (⟨#[64]⟩ : ByteArray)).size + a0_1.size ≤ 9223372036854775807) = true := decide_eq_true c16
   try have c16b2 : (9223372036854775807 < (t133 ++ (⟨#[64]⟩ : ByteArray)).size + a0_1.size) = False := eq_false (Nat.not_lt.2 c16)
   try (have c16b2y := c16b2; rw [ByteArray.size_append] at c16b2y)
   try have c16b2z : (9223372036854775807 < t133.size + 1 + a0_1.size) = False := eq_false (fun h_ => by have g_ := c16; simp only [ByteArray.size_append, show (⟨#[64]⟩ : ByteArray).size = 1 from rfl] at g_; omega)
   obtain rfl := Option.some.inj H
   go_enter Tryz.func25, Tryz.ntmps25
   go_wp2_with (first | ((with_reducible refine gate_dst (N := 1) rfl ?_); refine box_event ?hg (N := 1) ?hd (cs := #[.string a0_0, .string a0_1]) (t := 24) ?hr ?_; (case hd => rfl); (case hg => rfl); (case hr => first | (go_simp; done) | (go_simp; rfl)); intro gb130 hg w17 hbox hb; have BK130 := Aside0.mk (hbox); have GW130 := Aside0.mk (gz hg : w.heap.size ≤ gb130); have GE130 := Aside0.mk (gz hg : w.heap.size ≤ gb130); replace HB := Aside0.mk (below_step bl hb); clear hb hbox hg; have hcz18_0 := cz BK130.out 0 (.string a0_0); have hcz18_1 := cz BK130.out 1 (.string a0_1); have hfz18_0 := blk_frozen BK130.out 0; have hfz18_1 := blk_frozen BK130.out 1) | ((with_reducible refine gate_callee (f := 12) rfl ?_); refine goesL_ (some 5) rfl rfl Tryz.func12 kf rfl #[.agg #[.string a0_0, .string a0_1]] rfl ml ?_; (with_reducible refine (addr_May.calls a0_0 a0_1 true _ ?side1 A2.out).mono ?_); (case side1 => exact Glob.below HG.out bl); rintro e w19 ⟨rfl, hb⟩; refine ⟨_, rfl, ?_⟩; replace BK130 := Aside0.mk (kb BK130.out hb); replace HB := Aside0.mk (below_step bl hb); (try clear hb); (try clear hb2); (try clear hk); (try clear hi); have hcz20_0 := cz BK130.out 0 (.string a0_0); have hcz20_1 := cz BK130.out 1 (.string a0_1); have hfz20_0 := blk_frozen BK130.out 0; have hfz20_1 := blk_frozen BK130.out 1) | ((with_reducible refine gate_callee (f := 52) rfl ?_); refine goesL_ (some 10) rfl rfl Tryz.func52 kf rfl #[.string a0_0] rfl ml ?_; (with_reducible refine (text_DotAtom.calls k a0_0 false _ ?side1 A4.out).mono ?_); (case side1 => exact Glob.below HG.out bl); rintro e w21 ⟨rfl, hb⟩; refine ⟨_, rfl, ?_⟩; replace BK130 := Aside0.mk (kb BK130.out hb); replace HB := Aside0.mk (below_step bl hb); (try clear hb); (try clear hb2); (try clear hk); (try clear hi)) | ((with_reducible refine gate_callee (f := 53) rfl ?_); refine goesL_ (some 14) rfl rfl Tryz.func53 kf rfl #[.string a0_0] rfl ml ?_; (with_reducible refine (text_Quote.calls a0_0 t133 t134 _ A14.out).mono ?_); rintro e w22 ⟨rfl, hb⟩; refine ⟨_, rfl, ?_⟩; replace BK130 := Aside0.mk (kb BK130.out hb); replace HB := Aside0.mk (below_step bl hb); (try clear hb); (try clear hb2); (try clear hk); (try clear hi); have hcz23_0 := cz BK130.out 0 (.string a0_0); have hcz23_1 := cz BK130.out 1 (.string a0_1); have hfz23_0 := blk_frozen BK130.out 0; have hfz23_1 := blk_frozen BK130.out 1))
   go_ret
   exact ⟨rf, bl⟩
 ·replace c3 := Bool.eq_false_iff.mpr c3
  subst c3
  replace H : (some (⟨#[]⟩ : ByteArray)) = some r := by rw [if_neg (show ¬ (false = true) by decide)] at H; exact H
  obtain rfl := Option.some.inj H
  go_enter Tryz.func25, Tryz.ntmps25
  go_wp2_with (first | ((with_reducible refine gate_dst (N := 1) rfl ?_); refine box_event ?hg (N := 1) ?hd (cs := #[.string a0_0, .string a0_1]) (t := 24) ?hr ?_; (case hd => rfl); (case hg => rfl); (case hr => first | (go_simp; done) | (go_simp; rfl)); intro gb130 hg w24 hbox hb; have BK130 := Aside0.mk (hbox); have GW130 := Aside0.mk (gz hg : w.heap.size ≤ gb130); have GE130 := Aside0.mk (gz hg : w.heap.size ≤ gb130); replace HB := Aside0.mk (below_step bl hb); clear hb hbox hg; have hcz25_0 := cz BK130.out 0 (.string a0_0); have hcz25_1 := cz BK130.out 1 (.string a0_1); have hfz25_0 := blk_frozen BK130.out 0; have hfz25_1 := blk_frozen BK130.out 1) | ((with_reducible refine gate_callee (f := 12) rfl ?_); refine goesL_ (some 5) rfl rfl Tryz.func12 kf rfl #[.agg #[.string a0_0, .string a0_1]] rfl ml ?_; (with_reducible refine (addr_May.calls a0_0 a0_1 false _ ?side1 A2.out).mono ?_); (case side1 => exact Glob.below HG.out bl); rintro e w26 ⟨rfl, hb⟩; refine ⟨_, rfl, ?_⟩; replace BK130 := Aside0.mk (kb BK130.out hb); replace HB := Aside0.mk (below_step bl hb); (try clear hb); (try clear hb2); (try clear hk); (try clear hi)))
  go_ret
  exact ⟨rf, bl⟩

/-! ### path_Path_Text: function 8 -/
def path_Path_Text.f (k : Nat) (a0_0 : Bool) (a0_1 : Bool) (l0_2 : List ByteArray) (a0_3 : ByteArray) (a0_4 : ByteArray) : Option (ByteArray) := if a0_0 = true then (some (⟨#[60, 62]⟩ : ByteArray)) else (if a0_1 = true then (some (⟨#[60, 80, 111, 115, 116, 109, 97, 115, 116, 101, 114, 62]⟩ : ByteArray)) else ((addr_May.f a0_3 a0_4).bind fun t136 => (if t136 = true then ((addr_Text.f k a0_3 a0_4).bind fun t137 => (if 1 + t137.size ≤ 9223372036854775807 then (if ((⟨#[60]⟩ : ByteArray) ++ t137).size + 1 ≤ 9223372036854775807 then (some (((⟨#[60]⟩ : ByteArray) ++ t137) ++ (⟨#[62]⟩ : ByteArray))) else (none)) else (none))) else (some (⟨#[]⟩ : ByteArray)))))
theorem path_Path_Text.mono : ∀ a0 a1 a2 a3 a4 k, LeO (path_Path_Text.f k a0 a1 a2 a3 a4) (path_Path_Text.f (k + 1) a0 a1 a2 a3 a4) := by
 intro a0 a1 a2 a3 a4 k
 unfold path_Path_Text.f
 repeat' first
   | (with_reducible first | exact addr_Text.mono _ _ _ | exact LeO.refl _ | exact LeO.none _ | refine LeO.ite ?_ ?_ | refine LeO.bind ?_ (fun _ => ?_))
theorem path_Path_Text.calls (k : Nat) (a0_0 : Bool) (a0_1 : Bool) (A0_2 : Option Addr) (c0_2 : Nat) (l0_2 : List ByteArray) (a0_3 : ByteArray) (a0_4 : ByteArray) (r : ByteArray) (w : World) (hr0_2 : Kd.C Kd.string w A0_2 l0_2.length l0_2) (hc0_2 : l0_2.length ≤ c0_2) (hG : Glob w) (h : path_Path_Text.f k a0_0 a0_1 l0_2 a0_3 a0_4 = some r) :
  Calls Tryz.prog 8 #[.agg #[.bool a0_0, .bool a0_1, .slice A0_2 l0_2.length c0_2, .string a0_3, .string a0_4]] w fun e w' => e = .returned (.string r) ∧ Below w.heap.size w w' := by
 have hu26 := Tryz.underlying26
 have hu24 := Tryz.underlying24
 have HR0_2 := Aside0.mk hr0_2
 have HC0_2 := Aside0.mk hc0_2
 clear hr0_2 hc0_2
 have HB := Aside0.mk (Below.refl w.heap.size w)
 have HG := Aside0.mk hG
 clear hG
 have H : (if a0_0 = true then (some (⟨#[60, 62]⟩ : ByteArray)) else (if a0_1 = true then (some (⟨#[60, 80, 111, 115, 116, 109, 97, 115, 116, 101, 114, 62]⟩ : ByteArray)) else ((addr_May.f a0_3 a0_4).bind fun t136 => (if t136 = true then ((addr_Text.f k a0_3 a0_4).bind fun t137 => (if 1 + t137.size ≤ 9223372036854775807 then (if ((⟨#[60]⟩ : ByteArray) ++ t137).size + 1 ≤ 9223372036854775807 then (some (((⟨#[60]⟩ : ByteArray) ++ t137) ++ (⟨#[62]⟩ : ByteArray))) else (none)) else (none))) else (some (⟨#[]⟩ : ByteArray)))))) = some r := h
 clear h
 by_cases c2 : a0_0 = true
 ·subst c2
  replace H : (some (⟨#[60, 62]⟩ : ByteArray)) = some r := by rw [if_pos rfl] at H; exact H
  obtain rfl := Option.some.inj H
  go_enter Tryz.func8, Tryz.ntmps8
  go_wp2_with (first | ((with_reducible refine gate_dst (N := 1) rfl ?_); refine box_event ?hg (N := 1) ?hd (cs := #[.bool true, .bool a0_1, .slice A0_2 l0_2.length c0_2, .string a0_3, .string a0_4]) (t := 26) ?hr ?_; (case hd => rfl); (case hg => rfl); (case hr => first | (go_simp; done) | (go_simp; rfl)); intro gb135 hg w3 hbox hb; have BK135 := Aside0.mk (hbox); have GW135 := Aside0.mk (gz hg : w.heap.size ≤ gb135); have GE135 := Aside0.mk (gz hg : w.heap.size ≤ gb135); replace HB := Aside0.mk (below_step bl hb); clear hb hbox hg; have hcz4_0 := cz BK135.out 0 (.bool true); have hcz4_1 := cz BK135.out 1 (.bool a0_1); have hcz4_2 := cz BK135.out 2 (.slice A0_2 l0_2.length c0_2); have hcz4_3 := cz BK135.out 3 (.string a0_3); have hcz4_4 := cz BK135.out 4 (.string a0_4); have hfz4_0 := blk_frozen BK135.out 0; have hfz4_1 := blk_frozen BK135.out 1; have hfz4_2 := blk_frozen BK135.out 2; have hfz4_3 := blk_frozen BK135.out 3; have hfz4_4 := blk_frozen BK135.out 4))
  go_ret
  exact ⟨rf, bl⟩
 ·replace c2 := Bool.eq_false_iff.mpr c2
  subst c2
  replace H : (if a0_1 = true then (some (⟨#[60, 80, 111, 115, 116, 109, 97, 115, 116, 101, 114, 62]⟩ : ByteArray)) else ((addr_May.f a0_3 a0_4).bind fun t136 => (if t136 = true then ((addr_Text.f k a0_3 a0_4).bind fun t137 => (if 1 + t137.size ≤ 9223372036854775807 then (if ((⟨#[60]⟩ : ByteArray) ++ t137).size + 1 ≤ 9223372036854775807 then (some (((⟨#[60]⟩ : ByteArray) ++ t137) ++ (⟨#[62]⟩ : ByteArray))) else (none)) else (none))) else (some (⟨#[]⟩ : ByteArray))))) = some r := by rw [if_neg (show ¬ (false = true) by decide)] at H; exact H
  by_cases c5 : a0_1 = true
  ·subst c5
   replace H : (some (⟨#[60, 80, 111, 115, 116, 109, 97, 115, 116, 101, 114, 62]⟩ : ByteArray)) = some r := by rw [if_pos rfl] at H; exact H
   obtain rfl := Option.some.inj H
   go_enter Tryz.func8, Tryz.ntmps8
   go_wp2_with (first | ((with_reducible refine gate_dst (N := 1) rfl ?_); refine box_event ?hg (N := 1) ?hd (cs := #[.bool false, .bool true, .slice A0_2 l0_2.length c0_2, .string a0_3, .string a0_4]) (t := 26) ?hr ?_; (case hd => rfl); (case hg => rfl); (case hr => first | (go_simp; done) | (go_simp; rfl)); intro gb135 hg w6 hbox hb; have BK135 := Aside0.mk (hbox); have GW135 := Aside0.mk (gz hg : w.heap.size ≤ gb135); have GE135 := Aside0.mk (gz hg : w.heap.size ≤ gb135); replace HB := Aside0.mk (below_step bl hb); clear hb hbox hg; have hcz7_0 := cz BK135.out 0 (.bool false); have hcz7_1 := cz BK135.out 1 (.bool true); have hcz7_2 := cz BK135.out 2 (.slice A0_2 l0_2.length c0_2); have hcz7_3 := cz BK135.out 3 (.string a0_3); have hcz7_4 := cz BK135.out 4 (.string a0_4); have hfz7_0 := blk_frozen BK135.out 0; have hfz7_1 := blk_frozen BK135.out 1; have hfz7_2 := blk_frozen BK135.out 2; have hfz7_3 := blk_frozen BK135.out 3; have hfz7_4 := blk_frozen BK135.out 4))
   go_ret
   exact ⟨rf, bl⟩
  ·replace c5 := Bool.eq_false_iff.mpr c5
   subst c5
   replace H : ((addr_May.f a0_3 a0_4).bind fun t136 => (if t136 = true then ((addr_Text.f k a0_3 a0_4).bind fun t137 => (if 1 + t137.size ≤ 9223372036854775807 then (if ((⟨#[60]⟩ : ByteArray) ++ t137).size + 1 ≤ 9223372036854775807 then (some (((⟨#[60]⟩ : ByteArray) ++ t137) ++ (⟨#[62]⟩ : ByteArray))) else (none)) else (none))) else (some (⟨#[]⟩ : ByteArray)))) = some r := by rw [if_neg (show ¬ (false = true) by decide)] at H; exact H
   obtain ⟨t136, A80, H⟩ := Option.bind_eq_some_iff.mp H
   replace H : (if t136 = true then ((addr_Text.f k a0_3 a0_4).bind fun t137 => (if 1 + t137.size ≤ 9223372036854775807 then (if ((⟨#[60]⟩ : ByteArray) ++ t137).size + 1 ≤ 9223372036854775807 then (some (((⟨#[60]⟩ : ByteArray) ++ t137) ++ (⟨#[62]⟩ : ByteArray))) else (none)) else (none))) else (some (⟨#[]⟩ : ByteArray))) = some r := H
   have A8 := Aside0.mk A80
   clear A80
   by_cases c9 : t136 = true
   ·subst c9
    replace H : ((addr_Text.f k a0_3 a0_4).bind fun t137 => (if 1 + t137.size ≤ 9223372036854775807 then (if ((⟨#[60]⟩ : ByteArray) ++ t137).size + 1 ≤ 9223372036854775807 then (some (((⟨#[60]⟩ : ByteArray) ++ t137) ++ (⟨#[62]⟩ : ByteArray))) else (none)) else (none))) = some r := by rw [if_pos rfl] at H; exact H
    obtain ⟨t137, A100, H⟩ := Option.bind_eq_some_iff.mp H
    replace H : (if 1 + t137.size ≤ 9223372036854775807 then (if ((⟨#[60]⟩ : ByteArray) ++ t137).size + 1 ≤ 9223372036854775807 then (some (((⟨#[60]⟩ : ByteArray) ++ t137) ++ (⟨#[62]⟩ : ByteArray))) else (none)) else (none)) = some r := H
    have A10 := Aside0.mk A100
    clear A100
    by_cases c11 : 1 + t137.size ≤ 9223372036854775807
    rotate_left
    ·rw [if_neg c11] at H
     exact ab H
    rw [if_pos c11] at H
    have c11b0 := eq_true c11
    have c11b1 : decide (1 + t137.size ≤ 9223372036854775807) = true := decide_eq_true c11
    try have c11b2 : (9223372036854775807 < 1 + t137.size) = False := eq_false (Nat.not_lt.2 c11)
    by_cases c12 : ((⟨#[60]⟩ : ByteArray) ++ t137).size + 1 ≤ 9223372036854775807
    rotate_left
    ·rw [if_neg c12] at H
     exact ab H
    rw [if_pos c12] at H
    have c12b0 := eq_true c12
    have c12b1 : decide (((⟨#[60]⟩ : ByteArray) ++ t137).size + 1 ≤ 9223372036854775807) = true := decide_eq_true c12
    try have c12b2 : (9223372036854775807 < ((⟨#[60]⟩ : ByteArray) ++ t137).size + 1) = False := eq_false (Nat.not_lt.2 c12)
    try (have c12b2y := c12b2; rw [ByteArray.size_append] at c12b2y)
    try have c12b2z : (9223372036854775807 < 1 + t137.size + 1) = False := eq_false (fun h_ => by have g_ := c12; simp only [ByteArray.size_append, show (⟨#[60]⟩ : ByteArray).size = 1 from rfl] at g_; omega)
    obtain rfl := Option.some.inj H
    go_enter Tryz.func8, Tryz.ntmps8
    go_wp2_with (first | ((with_reducible refine gate_dst (N := 1) rfl ?_); refine box_event ?hg (N := 1) ?hd (cs := #[.bool false, .bool false, .slice A0_2 l0_2.length c0_2, .string a0_3, .string a0_4]) (t := 26) ?hr ?_; (case hd => rfl); (case hg => rfl); (case hr => first | (go_simp; done) | (go_simp; rfl)); intro gb135 hg w13 hbox hb; have BK135 := Aside0.mk (hbox); have GW135 := Aside0.mk (gz hg : w.heap.size ≤ gb135); have GE135 := Aside0.mk (gz hg : w.heap.size ≤ gb135); replace HB := Aside0.mk (below_step bl hb); clear hb hbox hg; have hcz14_0 := cz BK135.out 0 (.bool false); have hcz14_1 := cz BK135.out 1 (.bool false); have hcz14_2 := cz BK135.out 2 (.slice A0_2 l0_2.length c0_2); have hcz14_3 := cz BK135.out 3 (.string a0_3); have hcz14_4 := cz BK135.out 4 (.string a0_4); have hfz14_0 := blk_frozen BK135.out 0; have hfz14_1 := blk_frozen BK135.out 1; have hfz14_2 := blk_frozen BK135.out 2; have hfz14_3 := blk_frozen BK135.out 3; have hfz14_4 := blk_frozen BK135.out 4) | ((with_reducible refine gate_callee (f := 12) rfl ?_); refine goesL_ (some 12) rfl rfl Tryz.func12 kf rfl #[.agg #[.string a0_3, .string a0_4]] rfl ml ?_; (with_reducible refine (addr_May.calls a0_3 a0_4 true _ ?side1 A8.out).mono ?_); (case side1 => exact Glob.below HG.out bl); rintro e w15 ⟨rfl, hb⟩; refine ⟨_, rfl, ?_⟩; replace BK135 := Aside0.mk (kb BK135.out hb); replace HB := Aside0.mk (below_step bl hb); (try clear hb); (try clear hb2); (try clear hk); (try clear hi); have hcz16_0 := cz BK135.out 0 (.bool false); have hcz16_1 := cz BK135.out 1 (.bool false); have hcz16_2 := cz BK135.out 2 (.slice A0_2 l0_2.length c0_2); have hcz16_3 := cz BK135.out 3 (.string a0_3); have hcz16_4 := cz BK135.out 4 (.string a0_4); have hfz16_0 := blk_frozen BK135.out 0; have hfz16_1 := blk_frozen BK135.out 1; have hfz16_2 := blk_frozen BK135.out 2; have hfz16_3 := blk_frozen BK135.out 3; have hfz16_4 := blk_frozen BK135.out 4) | ((with_reducible refine gate_callee (f := 25) rfl ?_); refine goesL_ (some 16) rfl rfl Tryz.func25 kf rfl #[.agg #[.string a0_3, .string a0_4]] rfl ml ?_; (with_reducible refine (addr_Text.calls k a0_3 a0_4 t137 _ ?side1 A10.out).mono ?_); (case side1 => exact Glob.below HG.out bl); rintro e w17 ⟨rfl, hb⟩; refine ⟨_, rfl, ?_⟩; replace BK135 := Aside0.mk (kb BK135.out hb); replace HB := Aside0.mk (below_step bl hb); (try clear hb); (try clear hb2); (try clear hk); (try clear hi)))
    go_ret
    exact ⟨rf, bl⟩
   ·replace c9 := Bool.eq_false_iff.mpr c9
    subst c9
    replace H : (some (⟨#[]⟩ : ByteArray)) = some r := by rw [if_neg (show ¬ (false = true) by decide)] at H; exact H
    obtain rfl := Option.some.inj H
    go_enter Tryz.func8, Tryz.ntmps8
    go_wp2_with (first | ((with_reducible refine gate_dst (N := 1) rfl ?_); refine box_event ?hg (N := 1) ?hd (cs := #[.bool false, .bool false, .slice A0_2 l0_2.length c0_2, .string a0_3, .string a0_4]) (t := 26) ?hr ?_; (case hd => rfl); (case hg => rfl); (case hr => first | (go_simp; done) | (go_simp; rfl)); intro gb135 hg w18 hbox hb; have BK135 := Aside0.mk (hbox); have GW135 := Aside0.mk (gz hg : w.heap.size ≤ gb135); have GE135 := Aside0.mk (gz hg : w.heap.size ≤ gb135); replace HB := Aside0.mk (below_step bl hb); clear hb hbox hg; have hcz19_0 := cz BK135.out 0 (.bool false); have hcz19_1 := cz BK135.out 1 (.bool false); have hcz19_2 := cz BK135.out 2 (.slice A0_2 l0_2.length c0_2); have hcz19_3 := cz BK135.out 3 (.string a0_3); have hcz19_4 := cz BK135.out 4 (.string a0_4); have hfz19_0 := blk_frozen BK135.out 0; have hfz19_1 := blk_frozen BK135.out 1; have hfz19_2 := blk_frozen BK135.out 2; have hfz19_3 := blk_frozen BK135.out 3; have hfz19_4 := blk_frozen BK135.out 4) | ((with_reducible refine gate_callee (f := 12) rfl ?_); refine goesL_ (some 12) rfl rfl Tryz.func12 kf rfl #[.agg #[.string a0_3, .string a0_4]] rfl ml ?_; (with_reducible refine (addr_May.calls a0_3 a0_4 false _ ?side1 A8.out).mono ?_); (case side1 => exact Glob.below HG.out bl); rintro e w20 ⟨rfl, hb⟩; refine ⟨_, rfl, ?_⟩; replace BK135 := Aside0.mk (kb BK135.out hb); replace HB := Aside0.mk (below_step bl hb); (try clear hb); (try clear hb2); (try clear hk); (try clear hi)))
    go_ret
    exact ⟨rf, bl⟩

/-! ### postriderlaw06_Of: function 10 -/
def postriderlaw06_Of.f (a0_0 : Bool) (a0_1 : Bool) (l0_2 : List ByteArray) (a0_3 : ByteArray) (a0_4 : ByteArray) : Option (Bool × Bool × List ByteArray × ByteArray × ByteArray) := some (a0_0, a0_1, l0_2, a0_3, a0_4)
theorem postriderlaw06_Of.calls (a0_0 : Bool) (a0_1 : Bool) (P0_2_ : Nat → Prop) (A0_2 : Option Addr) (c0_2 : Nat) (l0_2 : List ByteArray) (a0_3 : ByteArray) (a0_4 : ByteArray) (r1 : Bool) (r2 : Bool) (r3 : List ByteArray) (r4 : ByteArray) (r5 : ByteArray) (w : World) (hs0_2 : Kd.V Kd.string 9 w w.heap.size (fun k_ => P0_2_ k_) (.slice A0_2 l0_2.length c0_2) l0_2) (h : postriderlaw06_Of.f a0_0 a0_1 l0_2 a0_3 a0_4 = some (r1, r2, r3, r4, r5)) :
  Calls Tryz.prog 10 #[.agg #[.bool a0_0, .bool a0_1, .slice A0_2 l0_2.length c0_2, .string a0_3, .string a0_4]] w fun e w' => ∃ v2_ : Value, e = .returned (.agg #[.bool r1, .bool r2, v2_, .string r4, .string r5]) ∧ Kd.V Kd.string 9 w' w.heap.size (fun k_ => (P0_2_ k_ ∨ w.heap.size ≤ k_)) v2_ r3 ∧ Below w.heap.size w w' := by
 have hu26 := Tryz.underlying26
 have hu31 := Tryz.underlying31
 have hu24 := Tryz.underlying24
 have HO0_2 := Aside0.mk (show Kd.V Kd.string 9 w w.heap.size (fun k_ => (P0_2_ k_ ∨ w.heap.size ≤ k_)) (.slice A0_2 l0_2.length c0_2) l0_2 from Kd.V_mono hs0_2 (fun k_ hk => .inl hk))
 have HB := Aside0.mk (Below.refl w.heap.size w)
 have H : (some (a0_0, a0_1, l0_2, a0_3, a0_4)) = some (r1, r2, r3, r4, r5) := h
 clear h
 simp only [Option.some.injEq, Prod.mk.injEq] at H
 obtain ⟨rfl, rfl, rfl, rfl, rfl⟩ := H
 go_enter Tryz.func10, Tryz.ntmps10
 go_wp2_with (first | ((with_reducible refine gate_dst (N := 1) rfl ?_); refine box_event ?hg (N := 1) ?hd (cs := #[.bool a0_0, .bool a0_1, .slice A0_2 l0_2.length c0_2, .string a0_3, .string a0_4]) (t := 26) ?hr ?_; (case hd => rfl); (case hg => rfl); (case hr => first | (go_simp; done) | (go_simp; rfl)); intro gb138 hg w2 hbox hb; replace HO0_2 := Aside0.mk (Kd.V_below (Kd.V_elderB (by (with_reducible repeat (first | apply Kd.V_alloc | apply Kd.V_drewN | apply Kd.V_drew)); exact HO0_2.out) gb138 (Nat.le_of_eq hg.symm)) hb); have BK138 := Aside0.mk (hbox); have GW138 := Aside0.mk (gz hg : w.heap.size ≤ gb138); have GE138 := Aside0.mk (gz hg : w.heap.size ≤ gb138); replace HB := Aside0.mk (below_step bl hb); clear hb hbox hg) | ((with_reducible refine gate_dst (N := 2) rfl ?_); refine box_event ?hg (N := 2) ?hd (cs := #[.bool false, .bool false, .slice none 0 0, .string (⟨#[]⟩ : ByteArray), .string (⟨#[]⟩ : ByteArray)]) (t := 31) ?hr ?_; (case hd => rfl); (case hg => rfl); (case hr => first | (go_simp; done) | (go_simp; rfl)); intro gb139 hg w3 hbox hb; replace HO0_2 := Aside0.mk (Kd.V_below (Kd.V_elderB (by (with_reducible repeat (first | apply Kd.V_alloc | apply Kd.V_drewN | apply Kd.V_drew)); exact HO0_2.out) gb139 (Nat.le_of_eq hg.symm)) hb); have BK139 := Aside0.mk (hbox); have GW139 := Aside0.mk (gz hg : w.heap.size ≤ gb139); have GE139 := Aside0.mk (gz hg : w.heap.size ≤ gb139); replace HB := Aside0.mk (below_step bl hb); have NB138_139 := Aside0.mk (nl hg BK138.out : gb138 ≠ gb139); have NB139_138 := Aside0.mk (ng hg BK138.out : gb139 ≠ gb138); replace BK138 := Aside0.mk (kb BK138.out hb); clear hb hbox hg; have hnb4 := NB138_139.out; have hnc4 := NB139_138.out; have hcz5_0 := cz BK138.out 0 (.bool a0_0); have hcz5_1 := cz BK138.out 1 (.bool a0_1); have hcz5_2 := cz BK138.out 2 (.slice A0_2 l0_2.length c0_2); have hcz5_3 := cz BK138.out 3 (.string a0_3); have hcz5_4 := cz BK138.out 4 (.string a0_4); have hfz5_0 := blk_frozen BK138.out 0; have hfz5_1 := blk_frozen BK138.out 1; have hfz5_2 := blk_frozen BK138.out 2; have hfz5_3 := blk_frozen BK138.out 3; have hfz5_4 := blk_frozen BK138.out 4; have hcz6_0 := cz BK139.out 0 (.bool false); have hcz6_1 := cz BK139.out 1 (.bool false); have hcz6_2 := cz BK139.out 2 (.slice none 0 0); have hcz6_3 := cz BK139.out 3 (.string (⟨#[]⟩ : ByteArray)); have hcz6_4 := cz BK139.out 4 (.string (⟨#[]⟩ : ByteArray)); have hfz6_0 := blk_frozen BK139.out 0; have hfz6_1 := blk_frozen BK139.out 1; have hfz6_2 := blk_frozen BK139.out 2; have hfz6_3 := blk_frozen BK139.out 3; have hfz6_4 := blk_frozen BK139.out 4))
 refine bodyPost_ret (results_cell_row rfl _ _ gb139 31 #[.bool a0_0, .bool a0_1, .slice A0_2 l0_2.length c0_2, .string a0_3, .string a0_4] (0, 0) _ rfl (by (with_reducible repeat (first | refine blk_drewN ?_ _ | refine blk_drew ?_ | refine blk_alloc ?_ _)); refine blk_put (cs := #[.bool a0_0, .bool a0_1, .slice A0_2 l0_2.length c0_2, .string a0_3, .string (⟨#[]⟩ : ByteArray)]) ?_ 4 _ rfl; (with_reducible repeat (first | refine blk_drewN ?_ _ | refine blk_drew ?_ | refine blk_alloc ?_ _)); refine blk_put (cs := #[.bool a0_0, .bool a0_1, .slice A0_2 l0_2.length c0_2, .string (⟨#[]⟩ : ByteArray), .string (⟨#[]⟩ : ByteArray)]) ?_ 3 _ rfl; (with_reducible repeat (first | refine blk_drewN ?_ _ | refine blk_drew ?_ | refine blk_alloc ?_ _)); refine blk_put (cs := #[.bool a0_0, .bool a0_1, .slice none 0 0, .string (⟨#[]⟩ : ByteArray), .string (⟨#[]⟩ : ByteArray)]) ?_ 2 _ rfl; (with_reducible repeat (first | refine blk_drewN ?_ _ | refine blk_drew ?_ | refine blk_alloc ?_ _)); refine blk_put (cs := #[.bool a0_0, .bool false, .slice none 0 0, .string (⟨#[]⟩ : ByteArray), .string (⟨#[]⟩ : ByteArray)]) ?_ 1 _ rfl; (with_reducible repeat (first | refine blk_drewN ?_ _ | refine blk_drew ?_ | refine blk_alloc ?_ _)); refine blk_put (cs := #[.bool false, .bool false, .slice none 0 0, .string (⟨#[]⟩ : ByteArray), .string (⟨#[]⟩ : ByteArray)]) ?_ 0 _ rfl; (with_reducible repeat (first | refine blk_drewN ?_ _ | refine blk_drew ?_ | refine blk_alloc ?_ _)); exact BK139.out) Tryz.underlying31 rfl kf) rfl ?_
 exact ⟨_, by first | rfl | (simp [errW_none, errW_some] <;> rfl) | (simp [*, errW_none, errW_some] <;> rfl), by (with_reducible repeat (first | apply Kd.V_alloc | apply Kd.V_drewN | apply Kd.V_drew)); exact Kd.V_mono (Kd.V_far (p := ⟨gb139, 4, none⟩) (Kd.V_far (p := ⟨gb139, 3, none⟩) (Kd.V_far (p := ⟨gb139, 2, none⟩) (Kd.V_far (p := ⟨gb139, 1, none⟩) (Kd.V_far (p := ⟨gb139, 0, none⟩) (Kd.V_mono HO0_2.out (fun k_ hk => (⟨hk, hk.2⟩ : _ ∧ k_ ≠ gb139))) (fun _ hk => hk.2) (.bool a0_0)) (fun _ hk => hk.2) (.bool a0_1)) (fun _ hk => hk.2) (.slice A0_2 l0_2.length c0_2)) (fun _ hk => hk.2) (.string a0_3)) (fun _ hk => hk.2) (.string a0_4)) (fun _ hk => hk.1.1.1), bl⟩

/-! ### strings_HasPrefix: function 38 -/
def strings_HasPrefix.f (a0 : ByteArray) (a1 : ByteArray) : Option (Bool) := (stringslite_HasPrefix.f a0 a1).bind fun t140 => (some t140)
theorem strings_HasPrefix.calls (a0 : ByteArray) (a1 : ByteArray) (r : Bool) (w : World) (h : strings_HasPrefix.f a0 a1 = some r) :
  Calls Tryz.prog 38 #[.string a0, .string a1] w fun e w' => e = .returned (.bool r) ∧ Drawn0 w w' := by
 have H : ((stringslite_HasPrefix.f a0 a1).bind fun t140 => (some t140)) = some r := h
 clear h
 obtain ⟨t140, A30, H⟩ := Option.bind_eq_some_iff.mp H
 replace H : (some t140) = some r := H
 have A3 := Aside0.mk A30
 clear A30
 obtain rfl := Option.some.inj H
 go_enter Tryz.func38, Tryz.ntmps38
 go_wp2_with (first | ((with_reducible refine gate_callee (f := 68) rfl ?_); refine goesL_ (some 7) rfl rfl Tryz.func68 kf rfl #[.string a0, .string a1] rfl ml ?_; (with_reducible refine (stringslite_HasPrefix.calls a0 a1 t140 _ A3.out).mono ?_); rintro e w' ⟨rfl, ⟨nd, rfl⟩⟩; refine ⟨_, rfl, ?_⟩))
 go_ret
 exact ⟨by first | rfl | (simp [bneNil]; done) | (simp; done) | (simp [*]; done), dr⟩

/-! ### strings_Cut: function 61 (by hand) -/
def strings_Cut.f (a0 a1 : ByteArray) : Option (ByteArray × ByteArray × Bool) := if a0.size < 4294967281 then some (⟨(Lib.cut a0.data.toList a1.data.toList).1.toArray⟩, ⟨(Lib.cut a0.data.toList a1.data.toList).2.1.toArray⟩, (Lib.cut a0.data.toList a1.data.toList).2.2) else none
theorem strings_Cut.calls (a0 a1 : ByteArray) (r1 r2 : ByteArray) (r3 : Bool) (w : World) (hG : Glob w) (h : strings_Cut.f a0 a1 = some (r1, r2, r3)) :
    Calls Tryz.prog 61 #[.string a0, .string a1] w fun e w' => e = .returned (.tuple #[.string r1, .string r2, .bool r3]) ∧ Drawn0 w w' := by
  unfold strings_Cut.f at h
  split at h
  · rename_i hs
    simp only [Option.some.injEq, Prod.mk.injEq] at h
    obtain ⟨rfl, rfl, rfl⟩ := h
    obtain ⟨m, hm⟩ := hG.mx
    refine (Tryz.strings_Cut a0 a1 m w hs hm).mono ?_
    rintro e w' ⟨rfl, nd, rfl⟩
    exact ⟨rfl, ⟨nd, rfl⟩⟩
  · cases h


/-! ### path_route: function 31 -/
def path_route.l0 : Nat → ByteArray → List ByteArray → List ByteArray → Int → Int → Option (List ByteArray × ByteArray × Bool)
 | 0, _, _, _, _, _ => none
 | k + 1, x6, x8, x26, x27, x28 => if x28 < x27 then (if 0 ≤ x28 then (if x28 < (x26.length : Int) then ((strings_CutPrefix.f (rdOf ByteArray.empty x26 x28) (⟨#[64]⟩ : ByteArray)).bind fun bt149 => (if bt149.2 = true then (if x8.length < 8796093022208 then (path_route.l0 k x6 (x8 ++ [bt149.1]) x26 x27 (wrap64 (x28 + 1))) else (none)) else (some (([] : List ByteArray), (⟨#[]⟩ : ByteArray), false)))) else (none)) else (none)) else (some (x8, x6, true))
def path_route.f (k : Nat) (a0 : ByteArray) : Option (List ByteArray × ByteArray × Bool) := (strings_HasPrefix.f a0 (⟨#[64]⟩ : ByteArray)).bind fun t141 => (if t141 = true then ((strings_Cut.f a0 (⟨#[58]⟩ : ByteArray)).bind fun bt142 => (if bt142.2.2 = true then ((text_Split.f k bt142.1 44).bind fun t145 => (path_route.l0 k bt142.2.1 ([] : List ByteArray) t145 (t145.length : Int) 0)) else (some (([] : List ByteArray), (⟨#[]⟩ : ByteArray), false)))) else (some (([] : List ByteArray), a0, true)))
theorem path_route.mono_l : ∀ k, (∀ y0 y1 y2 y3 y4, LeO (path_route.l0 k y0 y1 y2 y3 y4) (path_route.l0 (k + 1) y0 y1 y2 y3 y4))
 | 0 => fun _ _ _ _ _ r h => by simp [path_route.l0] at h
 | k + 1 => by
  have ih0 := path_route.mono_l k
  ·intro y0 y1 y2 y3 y4
   unfold path_route.l0
   repeat' first
   | (with_reducible first | exact ih0 _ _ _ _ _ | exact text_Split.mono _ _ _ | exact LeO.refl _ | exact LeO.none _ | refine LeO.ite ?_ ?_ | refine LeO.bind ?_ (fun _ => ?_))
theorem path_route.mono : ∀ a0 k, LeO (path_route.f k a0) (path_route.f (k + 1) a0) := by
 intro a0 k
 have ih0 := path_route.mono_l k
 unfold path_route.f
 repeat' first
   | (with_reducible first | exact ih0 _ _ _ _ _ | exact text_Split.mono _ _ _ | exact LeO.refl _ | exact LeO.none _ | refine LeO.ite ?_ ?_ | refine LeO.bind ?_ (fun _ => ?_))
theorem path_route.calls (k : Nat) (a0 : ByteArray) (r1 : List ByteArray) (r2 : ByteArray) (r3 : Bool) (w : World) (hG : Glob w) (h : path_route.f k a0 = some (r1, r2, r3)) :
  Calls Tryz.prog 31 #[.string a0] w fun e w' => ∃ v0_ : Value, e = .returned (.tuple #[v0_, .string r2, .bool r3]) ∧ Kd.R Kd.string 9 w' w.heap.size (fun _ => True) v0_ r1 ∧ Below w.heap.size w w' := by
 have HB := Aside0.mk (Below.refl w.heap.size w)
 have HG := Aside0.mk hG
 clear hG
 have H : ((strings_HasPrefix.f a0 (⟨#[64]⟩ : ByteArray)).bind fun t141 => (if t141 = true then ((strings_Cut.f a0 (⟨#[58]⟩ : ByteArray)).bind fun bt142 => (if bt142.2.2 = true then ((text_Split.f k bt142.1 44).bind fun t145 => (path_route.l0 k bt142.2.1 ([] : List ByteArray) t145 (t145.length : Int) 0)) else (some (([] : List ByteArray), (⟨#[]⟩ : ByteArray), false)))) else (some (([] : List ByteArray), a0, true)))) = some (r1, r2, r3) := h
 clear h
 obtain ⟨t141, A20, H⟩ := Option.bind_eq_some_iff.mp H
 replace H : (if t141 = true then ((strings_Cut.f a0 (⟨#[58]⟩ : ByteArray)).bind fun bt142 => (if bt142.2.2 = true then ((text_Split.f k bt142.1 44).bind fun t145 => (path_route.l0 k bt142.2.1 ([] : List ByteArray) t145 (t145.length : Int) 0)) else (some (([] : List ByteArray), (⟨#[]⟩ : ByteArray), false)))) else (some (([] : List ByteArray), a0, true))) = some (r1, r2, r3) := H
 have A2 := Aside0.mk A20
 clear A20
 by_cases c3 : t141 = true
 ·subst c3
  replace H : ((strings_Cut.f a0 (⟨#[58]⟩ : ByteArray)).bind fun bt142 => (if bt142.2.2 = true then ((text_Split.f k bt142.1 44).bind fun t145 => (path_route.l0 k bt142.2.1 ([] : List ByteArray) t145 (t145.length : Int) 0)) else (some (([] : List ByteArray), (⟨#[]⟩ : ByteArray), false)))) = some (r1, r2, r3) := by rw [if_pos rfl] at H; exact H
  obtain ⟨⟨t142, t143, t144⟩, A40, H⟩ := Option.bind_eq_some_iff.mp H
  replace H : (if t144 = true then ((text_Split.f k t142 44).bind fun t145 => (path_route.l0 k t143 ([] : List ByteArray) t145 (t145.length : Int) 0)) else (some (([] : List ByteArray), (⟨#[]⟩ : ByteArray), false))) = some (r1, r2, r3) := H
  have A4 := Aside0.mk A40
  clear A40
  by_cases c5 : t144 = true
  ·subst c5
   replace H : ((text_Split.f k t142 44).bind fun t145 => (path_route.l0 k t143 ([] : List ByteArray) t145 (t145.length : Int) 0)) = some (r1, r2, r3) := by rw [if_pos rfl] at H; exact H
   obtain ⟨t145, A60, H⟩ := Option.bind_eq_some_iff.mp H
   replace H : (path_route.l0 k t143 ([] : List ByteArray) t145 (t145.length : Int) 0) = some (r1, r2, r3) := H
   have A6 := Aside0.mk A60
   clear A60
   have H' := Aside0.mk H
   clear H
   go_enter Tryz.func31, Tryz.ntmps31
   go_wp2_with (first | ((with_reducible refine gate_callee (f := 38) rfl ?_); refine goesL_ (some 14) rfl rfl Tryz.func38 kf rfl #[.string a0, .string (⟨#[64]⟩ : ByteArray)] rfl ml ?_; (with_reducible refine (strings_HasPrefix.calls a0 (⟨#[64]⟩ : ByteArray) true _ A2.out).mono ?_); rintro e w' ⟨rfl, ⟨nd, rfl⟩⟩; refine ⟨_, rfl, ?_⟩) | ((with_reducible refine gate_callee (f := 61) rfl ?_); refine goesL_ (some 19) rfl rfl Tryz.func61 kf rfl #[.string a0, .string (⟨#[58]⟩ : ByteArray)] rfl ml ?_; (with_reducible refine (strings_Cut.calls a0 (⟨#[58]⟩ : ByteArray) t142 t143 true _ ?side1 A4.out).mono ?_); (case side1 => exact Glob.below HG.out bl); rintro e w' ⟨rfl, ⟨nd, rfl⟩⟩; refine ⟨_, rfl, ?_⟩) | ((with_reducible refine gate_callee (f := 43) rfl ?_); refine goesL_ (some 26) rfl rfl Tryz.func43 kf rfl #[.string t142, .int .u8 44] rfl ml ?_; (with_reducible refine (text_Split.calls k t142 44 t145 _ A6.out).mono ?_); rintro e w7 ⟨v146, rfl, ho0, hb⟩; refine ⟨_, rfl, ?_⟩; have HO147 := Aside0.mk (Kd.R_lower ho0 (below_size bl)); replace HB := Aside0.mk (below_step bl hb); (try clear hb); (try clear hb2); (try clear hk); (try clear hi); (try clear ho0); obtain ⟨Ao8, co8, eo8⟩ := Kd.R_slice HO147.out; subst eo8))
   go_loopg [8, 28] k (fun kq v8 v28 w' => ∃ (x8_1 : List ByteArray) (x28_1 : Int), v28 = .int .i64 x28_1 ∧ Aside0 (path_route.l0 kq t143 x8_1 t145 (t145.length : Int) x28_1 = some (r1, r2, r3)) ∧ Aside0 (kq ≤ k) ∧ Aside0 (Kd.R Kd.string 9 w' w.heap.size (fun k_ => some k_ ≠ ((.slice Ao8 t145.length co8) : Value).ownBlock) v8 x8_1) ∧ Aside0 (Kd.R Kd.string 9 w' w.heap.size (fun k_ => some k_ ≠ (v8 : Value).ownBlock) (.slice Ao8 t145.length co8) t145) ∧ Aside0 (Below w.heap.size w w'))
   case atStart => exact ⟨(([] : List ByteArray)), (0), rs, H', ⟨Nat.le_refl _⟩, ⟨by first | exact Kd.R_nil _ _ _ _ _ | exact Kd.N_nil _ _ _ _ _ | exact Kd.V_nil _ _ _ _ _ | exact Kd.Q_nil _ _ _ _ _ | exact Kd.S_nil _ _ _ _ _⟩, ⟨by (with_reducible repeat (first | apply Kd.R_alloc | apply Kd.R_drewN | apply Kd.R_drew)); exact Kd.R_mono HO147.out (fun _ hk => (by simp [Value.ownBlock]))⟩, ⟨bl⟩⟩
   case round =>
    clear H'
    try clear p2
    try clear c3
    try clear c4
    try clear c5
    try clear c6
    obtain ⟨x8_1, x28_1, rfl, HA, HK1, HO_8, HO_26, HB⟩ := hrel
    cases gk with
    | zero => exact absurd HA.out (by simp [path_route.l0])
    | succ k1 =>
     have H := HA.out
     clear HA
     simp only [path_route.l0] at H
     by_cases c9 : x28_1 < (t145.length : Int)
     ·rw [if_pos c9] at H
      have c9b0 : decide (x28_1 < (t145.length : Int)) = true := decide_eq_true c9
      clear c9
      by_cases c10 : 0 ≤ x28_1
      rotate_left
      ·rw [if_neg c10] at H
       exact ab H
      rw [if_pos c10] at H
      have c10b0 : decide (0 ≤ x28_1) = true := decide_eq_true c10
      clear c10
      by_cases c11 : x28_1 < (t145.length : Int)
      rotate_left
      ·rw [if_neg c11] at H
       exact ab H
      rw [if_pos c11] at H
      have c11b0 : decide (x28_1 < (t145.length : Int)) = true := decide_eq_true c11
      clear c11
      obtain ⟨⟨t149, t150⟩, A120, H⟩ := Option.bind_eq_some_iff.mp H
      replace H : (if t150 = true then (if x8_1.length < 8796093022208 then (path_route.l0 k1 t143 (x8_1 ++ [t149]) t145 (t145.length : Int) (wrap64 (x28_1 + 1))) else (none)) else (some (([] : List ByteArray), (⟨#[]⟩ : ByteArray), false))) = some (r1, r2, r3) := H
      have A12 := Aside0.mk A120
      clear A120
      by_cases c13 : t150 = true
      ·subst c13
       replace H : (if x8_1.length < 8796093022208 then (path_route.l0 k1 t143 (x8_1 ++ [t149]) t145 (t145.length : Int) (wrap64 (x28_1 + 1))) else (none)) = some (r1, r2, r3) := by rw [if_pos rfl] at H; exact H
       by_cases c14 : x8_1.length < 8796093022208
       rotate_left
       ·rw [if_neg c14] at H
        exact ab H
       rw [if_pos c14] at H
       have LMc14 := Aside0.mk c14
       clear c14
       obtain ⟨y151, hy151⟩ : ∃ y_ : List ByteArray, y_ = (x8_1 ++ [t149]) := ⟨_, rfl⟩
       replace H : (path_route.l0 k1 t143 y151 t145 (t145.length : Int) (wrap64 (x28_1 + 1))) = some (r1, r2, r3) := by first | (rw [hy151]; with_reducible exact H) | (have H2_ := (Option.bind_some _ _).symm.trans H; rw [hy151]; with_reducible exact H2_) | (have H2_ := (Option.bind_some _ _).symm.trans H; with_reducible exact H2_) | with_reducible exact H | (rw [hy151]; exact H) | exact H
       have Ny151 := Aside0.mk hy151
       clear hy151
       have H' := Aside0.mk H
       clear H
       have p148 : 0 ≤ (x28_1 : Int) := od
       have q148 : x28_1 < (t145.length : Int) := od
       obtain ⟨ad148, e148, hx148_0⟩ := Kd.at_string (Kd.R_reads' HO_26.out).2.2 x28_1 p148 q148
       cases e148
       replace p148 := eq_true p148
       replace q148 := eq_true q148
       go_wp2_with (first | ((with_reducible refine gate_callee (f := 30) rfl ?_); refine goesL_ (some 34) rfl rfl Tryz.func30 kf rfl #[.string (rdOf ByteArray.empty t145 x28_1), .string (⟨#[64]⟩ : ByteArray)] rfl ml ?_; (with_reducible refine (strings_CutPrefix.calls (rdOf ByteArray.empty t145 x28_1) (⟨#[64]⟩ : ByteArray) t149 true _ A12.out).mono ?_); rintro e w' ⟨rfl, ⟨nd, rfl⟩⟩; refine ⟨_, rfl, ?_⟩) | ((with_reducible refine gate_builtin (b := .append) (xs := #[.tmp 39, .tmp 41]) rfl ?_); at_builtin; refine Kd.R_append Kd.string (w0 := w) w.heap.size rfl (.tmp 39) (.tmp 41) 22 9 (.string ⟨#[]⟩) 16 rfl Tryz.underlying22 info9 rfl (by decide) (by omega) u8 x8_1 t149 [.string t149] (fun k_ => some k_ ≠ (.slice (some ad148) t145.length co8 : Value).ownBlock) (fun _ => False) rfl rfl ?aP (fun _ hk => hk.elim) ?aF ?aO ?aB ?aS ?aL ?_; (case aP => exact rfl); (case aB => exact bl); (case aF => exact (fun k_ hk => Kd.fresh' (Kd.R_lt (kr HO_26.out)) k_ hk)); (case aO => exact (kr HO_8.out)); (case aS => exact (below_size bl)); (case aL => have := LMc14.out; omega); intro v152 w15 ho hb hg hat; rw [← Ny151.out] at ho; replace HO_26 := Aside0.mk (Kd.R_after (ok := (fun _ => True)) (by (with_reducible repeat (first | apply Kd.R_alloc | apply Kd.R_drewN | apply Kd.R_drew)); exact Kd.R_mono HO_26.out (fun _ hk => ⟨trivial, hk⟩)) hg hat); replace HB := Aside0.mk (hb); have HO153 := Aside0.mk (ho); clear HO_8 ho hb hg hat))
       go_roundg k1
       case measure => have := HK1.out; omega
       case rel => exact ⟨(y151), (wrap64 (x28_1 + 1)), rs, H', ⟨by have := HK1.out; omega⟩, ⟨kr HO153.out⟩, ⟨by (with_reducible repeat (first | apply Kd.R_alloc | apply Kd.R_drewN | apply Kd.R_drew)); exact Kd.R_mono HO_26.out (fun _ hk => hk.2)⟩, ⟨bl⟩⟩
      ·replace c13 := Bool.eq_false_iff.mpr c13
       subst c13
       replace H : (some (([] : List ByteArray), (⟨#[]⟩ : ByteArray), false)) = some (r1, r2, r3) := by rw [if_neg (show ¬ (false = true) by decide)] at H; exact H
       simp only [Option.some.injEq, Prod.mk.injEq] at H
       obtain ⟨rfl, rfl, rfl⟩ := H
       have p148 : 0 ≤ (x28_1 : Int) := od
       have q148 : x28_1 < (t145.length : Int) := od
       obtain ⟨ad148, e148, hx148_0⟩ := Kd.at_string (Kd.R_reads' HO_26.out).2.2 x28_1 p148 q148
       cases e148
       replace p148 := eq_true p148
       replace q148 := eq_true q148
       go_wp2_with (first | ((with_reducible refine gate_callee (f := 30) rfl ?_); refine goesL_ (some 34) rfl rfl Tryz.func30 kf rfl #[.string (rdOf ByteArray.empty t145 x28_1), .string (⟨#[64]⟩ : ByteArray)] rfl ml ?_; (with_reducible refine (strings_CutPrefix.calls (rdOf ByteArray.empty t145 x28_1) (⟨#[64]⟩ : ByteArray) t149 false _ A12.out).mono ?_); rintro e w' ⟨rfl, ⟨nd, rfl⟩⟩; refine ⟨_, rfl, ?_⟩))
       go_ret3
       exact ⟨_, by first | rfl | (simp [errW_none, errW_some] <;> rfl) | (simp [*, errW_none, errW_some] <;> rfl), by first | exact Kd.R_nil _ _ _ _ _ | exact Kd.N_nil _ _ _ _ _ | exact Kd.V_nil _ _ _ _ _ | exact Kd.Q_nil _ _ _ _ _ | exact Kd.S_nil _ _ _ _ _, bl⟩
     ·rw [if_neg c9] at H
      have c9b0 : decide (x28_1 < (t145.length : Int)) = false := decide_eq_false c9
      clear c9
      simp only [Option.some.injEq, Prod.mk.injEq] at H
      obtain ⟨rfl, rfl, rfl⟩ := H
      go_wp2
      go_ret3
      exact ⟨_, by first | rfl | (simp [errW_none, errW_some] <;> rfl) | (simp [*, errW_none, errW_some] <;> rfl), by (with_reducible repeat (first | apply Kd.R_alloc | apply Kd.R_drewN | apply Kd.R_drew)); exact Kd.R_mono HO_8.out (fun _ hk => trivial), bl⟩
  ·replace c5 := Bool.eq_false_iff.mpr c5
   subst c5
   replace H : (some (([] : List ByteArray), (⟨#[]⟩ : ByteArray), false)) = some (r1, r2, r3) := by rw [if_neg (show ¬ (false = true) by decide)] at H; exact H
   simp only [Option.some.injEq, Prod.mk.injEq] at H
   obtain ⟨rfl, rfl, rfl⟩ := H
   go_enter Tryz.func31, Tryz.ntmps31
   go_wp2_with (first | ((with_reducible refine gate_callee (f := 38) rfl ?_); refine goesL_ (some 14) rfl rfl Tryz.func38 kf rfl #[.string a0, .string (⟨#[64]⟩ : ByteArray)] rfl ml ?_; (with_reducible refine (strings_HasPrefix.calls a0 (⟨#[64]⟩ : ByteArray) true _ A2.out).mono ?_); rintro e w' ⟨rfl, ⟨nd, rfl⟩⟩; refine ⟨_, rfl, ?_⟩) | ((with_reducible refine gate_callee (f := 61) rfl ?_); refine goesL_ (some 19) rfl rfl Tryz.func61 kf rfl #[.string a0, .string (⟨#[58]⟩ : ByteArray)] rfl ml ?_; (with_reducible refine (strings_Cut.calls a0 (⟨#[58]⟩ : ByteArray) t142 t143 false _ ?side1 A4.out).mono ?_); (case side1 => exact Glob.below HG.out bl); rintro e w' ⟨rfl, ⟨nd, rfl⟩⟩; refine ⟨_, rfl, ?_⟩))
   go_ret3
   exact ⟨_, by first | rfl | (simp [errW_none, errW_some] <;> rfl) | (simp [*, errW_none, errW_some] <;> rfl), by first | exact Kd.R_nil _ _ _ _ _ | exact Kd.N_nil _ _ _ _ _ | exact Kd.V_nil _ _ _ _ _ | exact Kd.Q_nil _ _ _ _ _ | exact Kd.S_nil _ _ _ _ _, bl⟩
 ·replace c3 := Bool.eq_false_iff.mpr c3
  subst c3
  replace H : (some (([] : List ByteArray), a0, true)) = some (r1, r2, r3) := by rw [if_neg (show ¬ (false = true) by decide)] at H; exact H
  simp only [Option.some.injEq, Prod.mk.injEq] at H
  obtain ⟨rfl, rfl, rfl⟩ := H
  go_enter Tryz.func31, Tryz.ntmps31
  go_wp2_with (first | ((with_reducible refine gate_callee (f := 38) rfl ?_); refine goesL_ (some 14) rfl rfl Tryz.func38 kf rfl #[.string a0, .string (⟨#[64]⟩ : ByteArray)] rfl ml ?_; (with_reducible refine (strings_HasPrefix.calls a0 (⟨#[64]⟩ : ByteArray) false _ A2.out).mono ?_); rintro e w' ⟨rfl, ⟨nd, rfl⟩⟩; refine ⟨_, rfl, ?_⟩))
  go_ret3
  exact ⟨_, by first | rfl | (simp [errW_none, errW_some] <;> rfl) | (simp [*, errW_none, errW_some] <;> rfl), by first | exact Kd.R_nil _ _ _ _ _ | exact Kd.N_nil _ _ _ _ _ | exact Kd.V_nil _ _ _ _ _ | exact Kd.Q_nil _ _ _ _ _ | exact Kd.S_nil _ _ _ _ _, bl⟩

/-! ### text_plain: function 58 -/
def text_plain.f (a0 : Int) : Option (Bool) := if a0 ≥ 32 then (some (decide (a0 ≤ 126))) else (some false)
theorem text_plain.calls (a0 : Int) (r : Bool) (w : World) (h : text_plain.f a0 = some r) :
  Calls Tryz.prog 58 #[.int .u8 a0] w fun e w' => e = .returned (.bool r) ∧ Drawn0 w w' := by
 have H : (if a0 ≥ 32 then (some (decide (a0 ≤ 126))) else (some false)) = some r := h
 clear h
 by_cases c2 : a0 ≥ 32
 ·rw [if_pos c2] at H
  have c2b0 : decide (32 ≤ a0) = true := decide_eq_true c2
  clear c2
  obtain rfl := Option.some.inj H
  go_enter Tryz.func58, Tryz.ntmps58
  go_wp2
  go_ret
  exact ⟨by first | rfl | (simp [bneNil]; done) | (simp; done) | (simp [*]; done), dr⟩
 ·rw [if_neg c2] at H
  have c2b0 : decide (32 ≤ a0) = false := decide_eq_false c2
  clear c2
  obtain rfl := Option.some.inj H
  go_enter Tryz.func58, Tryz.ntmps58
  go_wp2
  go_ret
  exact ⟨by first | rfl | (simp [bneNil]; done) | (simp; done) | (simp [*]; done), dr⟩

/-! ### text_pair: function 95 -/
def text_pair.f (a0 : ByteArray) (a1 : Int) : Option (Int × Int) := if (wrap64 (a1 + 1)) ≥ (a0.size : Int) then (some (0, 4)) else (if 0 ≤ (wrap64 (a1 + 1)) then (if (wrap64 (a1 + 1)) < (a0.size : Int) then ((text_plain.f (bt a0 (wrap64 (a1 + 1)))).bind fun t154 => (if t154 = true then (some (bt a0 (wrap64 (a1 + 1)), 0)) else (some (0, 5)))) else (none)) else (none))
theorem text_pair.calls (a0 : ByteArray) (a1 : Int) (r1 : Int) (r2 : Int) (w : World) (h : text_pair.f a0 a1 = some (r1, r2)) :
  Calls Tryz.prog 95 #[.string a0, .int .i64 a1] w fun e w' => e = .returned (.tuple #[.int .u8 r1, .int .i64 r2]) ∧ Drawn0 w w' := by
 have H : (if (wrap64 (a1 + 1)) ≥ (a0.size : Int) then (some (0, 4)) else (if 0 ≤ (wrap64 (a1 + 1)) then (if (wrap64 (a1 + 1)) < (a0.size : Int) then ((text_plain.f (bt a0 (wrap64 (a1 + 1)))).bind fun t154 => (if t154 = true then (some (bt a0 (wrap64 (a1 + 1)), 0)) else (some (0, 5)))) else (none)) else (none))) = some (r1, r2) := h
 clear h
 by_cases c3 : (wrap64 (a1 + 1)) ≥ (a0.size : Int)
 ·rw [if_pos c3] at H
  have c3b0 : decide ((a0.size : Int) ≤ (wrap64 (a1 + 1))) = true := decide_eq_true c3
  clear c3
  simp only [Option.some.injEq, Prod.mk.injEq] at H
  obtain ⟨rfl, rfl⟩ := H
  go_enter Tryz.func95, Tryz.ntmps95
  go_wp2
  go_ret2
  exact ⟨by first | rfl | (simp [bneNil]; done) | (simp; done) | (simp [*]; done), dr⟩
 ·rw [if_neg c3] at H
  have c3b0 : decide ((a0.size : Int) ≤ (wrap64 (a1 + 1))) = false := decide_eq_false c3
  clear c3
  obtain ⟨ji4, hji4⟩ : ∃ j_ : Int, (wrap64 (a1 + 1)) = j_ := ⟨_, rfl⟩
  replace H : (if 0 ≤ (ji4) then (if (ji4) < (a0.size : Int) then ((text_plain.f (bt a0 (ji4))).bind fun t154 => (if t154 = true then (some (bt a0 (ji4), 0)) else (some (0, 5)))) else (none)) else (none)) = some (r1, r2) := by first | (rw [hji4] at H; exact H) | (simp only [hji4] at H ⊢; exact H)
  (try rw [hji4] at c3b0)
  have hji4w : (IntKind.i64.wrap (a1 + 1)) = ji4 := (i64_w _).trans hji4
  by_cases c5 : 0 ≤ (ji4)
  rotate_left
  ·rw [if_neg c5] at H
   exact ab H
  rw [if_pos c5] at H
  have c5b0 : decide (0 ≤ (ji4)) = true := decide_eq_true c5
  clear c5
  by_cases c6 : (ji4) < (a0.size : Int)
  rotate_left
  ·rw [if_neg c6] at H
   exact ab H
  rw [if_pos c6] at H
  have c6b0 : decide ((ji4) < (a0.size : Int)) = true := decide_eq_true c6
  clear c6
  obtain ⟨t154, A80, H⟩ := Option.bind_eq_some_iff.mp H
  replace H : (if t154 = true then (some (bt a0 (ji4), 0)) else (some (0, 5))) = some (r1, r2) := H
  have A8 := Aside0.mk A80
  clear A80
  by_cases c9 : t154 = true
  ·subst c9
   replace H : (some (bt a0 (ji4), 0)) = some (r1, r2) := by rw [if_pos rfl] at H; exact H
   simp only [Option.some.injEq, Prod.mk.injEq] at H
   obtain ⟨rfl, rfl⟩ := H
   have p7 : 0 ≤ ((ji4) : Int) := od
   have q7 : (ji4) < (a0.size : Int) := od
   have hx7 := bt_at a0 (ji4)
   replace p7 := eq_true p7
   replace q7 := eq_true q7
   go_enter Tryz.func95, Tryz.ntmps95
   go_wp2_with (first | ((with_reducible refine gate_callee (f := 58) rfl ?_); refine goesL_ (some 17) rfl rfl Tryz.func58 kf rfl #[.int .u8 (bt a0 (ji4))] rfl (by (try simp only [List.map_toArray, List.map_cons, List.map_nil]); first | done | (simp only [hji4]; rfl) | rfl | (simp only [List.length_drop, List.length_take]; rfl)) ?_; (with_reducible refine (text_plain.calls (bt a0 (ji4)) true _ A8.out).mono ?_); rintro e w' ⟨rfl, ⟨nd, rfl⟩⟩; refine ⟨_, rfl, ?_⟩; have p10 : 0 ≤ ((ji4) : Int) := od; have q10 : (ji4) < (a0.size : Int) := od; have hx10 := bt_at a0 (ji4); replace p10 := eq_true p10; replace q10 := eq_true q10))
   go_ret2
   exact ⟨by first | rfl | (simp [bneNil]; done) | (simp; done) | (simp only [← hji4] <;> (first | rfl | simp)) | (simp [*]; done), dr⟩
  ·replace c9 := Bool.eq_false_iff.mpr c9
   subst c9
   replace H : (some (0, 5)) = some (r1, r2) := by rw [if_neg (show ¬ (false = true) by decide)] at H; exact H
   simp only [Option.some.injEq, Prod.mk.injEq] at H
   obtain ⟨rfl, rfl⟩ := H
   have p7 : 0 ≤ ((ji4) : Int) := od
   have q7 : (ji4) < (a0.size : Int) := od
   have hx7 := bt_at a0 (ji4)
   replace p7 := eq_true p7
   replace q7 := eq_true q7
   go_enter Tryz.func95, Tryz.ntmps95
   go_wp2_with (first | ((with_reducible refine gate_callee (f := 58) rfl ?_); refine goesL_ (some 17) rfl rfl Tryz.func58 kf rfl #[.int .u8 (bt a0 (ji4))] rfl (by (try simp only [List.map_toArray, List.map_cons, List.map_nil]); first | done | (simp only [hji4]; rfl) | rfl | (simp only [List.length_drop, List.length_take]; rfl)) ?_; (with_reducible refine (text_plain.calls (bt a0 (ji4)) false _ A8.out).mono ?_); rintro e w' ⟨rfl, ⟨nd, rfl⟩⟩; refine ⟨_, rfl, ?_⟩))
   go_ret2
   exact ⟨by first | rfl | (simp [bneNil]; done) | (simp; done) | (simp only [← hji4] <;> (first | rfl | simp)) | (simp [*]; done), dr⟩

end Go.Proofs.YtgelfnjicglmbaaGreatDoor.Q
end
section
namespace Go.Proofs.YtgelfnjicglmbaaGreatDoor.Q

/-! ### text_Quoted: function 62 -/
mutual
def text_Quoted.j0 : Nat → ByteArray → Bool → Option (ByteArray × Int × Int)
 | 0, _, _ => none
 | k + 1, x0, x14 => if x14 = true then (some ((⟨#[]⟩ : ByteArray), 0, 5)) else (text_Quoted.l0 k x0 ([] : List Int) 1)
def text_Quoted.l0 : Nat → ByteArray → List Int → Int → Option (ByteArray × Int × Int)
 | 0, _, _, _ => none
 | k + 1, x0, x5, x6 => if x6 < (x0.size : Int) then (if 0 ≤ x6 then (if (bt x0 x6) = 34 then (some (strOfNums x5, wrap64 (x6 + 1), 0)) else (if (bt x0 x6) = 92 then ((text_pair.f x0 x6).bind fun bt155 => (if bt155.2 = 0 then (if x5.length < 140737488355328 then (text_Quoted.l0 k x0 (x5 ++ [bt155.1]) (wrap64 ((wrap64 (x6 + 1)) + 1))) else (none)) else (some ((⟨#[]⟩ : ByteArray), 0, bt155.2)))) else ((text_plain.f (bt x0 x6)).bind fun t160 => (if t160 = true then (if x5.length < 140737488355328 then (text_Quoted.l0 k x0 (x5 ++ [bt x0 x6]) (wrap64 (x6 + 1))) else (none)) else (some ((⟨#[]⟩ : ByteArray), 0, 5)))))) else (none)) else (some ((⟨#[]⟩ : ByteArray), 0, 4))
end
def text_Quoted.f (k : Nat) (a0 : ByteArray) : Option (ByteArray × Int × Int) := if a0.toList = ([] : List UInt8) then (text_Quoted.j0 k a0 true) else (if 0 < (a0.size : Int) then (text_Quoted.j0 k a0 ((bt a0 0) != 34)) else (none))
theorem text_Quoted.mono_l : ∀ k, (∀ y0 y1, LeO (text_Quoted.j0 k y0 y1) (text_Quoted.j0 (k + 1) y0 y1)) ∧ (∀ y0 y1 y2, LeO (text_Quoted.l0 k y0 y1 y2) (text_Quoted.l0 (k + 1) y0 y1 y2))
 | 0 => ⟨fun _ _ r h => by simp [text_Quoted.j0] at h, fun _ _ _ r h => by simp [text_Quoted.l0] at h⟩
 | k + 1 => by
  obtain ⟨ih0, ih1⟩ := text_Quoted.mono_l k
  refine ⟨?_, ?_⟩
  ·intro y0 y1
   unfold text_Quoted.j0
   repeat' first
   | (with_reducible first | exact ih0 _ _ | exact ih1 _ _ _ | exact LeO.refl _ | exact LeO.none _ | refine LeO.ite ?_ ?_ | refine LeO.bind ?_ (fun _ => ?_))
  ·intro y0 y1 y2
   unfold text_Quoted.l0
   repeat' first
   | (with_reducible first | exact ih0 _ _ | exact ih1 _ _ _ | exact LeO.refl _ | exact LeO.none _ | refine LeO.ite ?_ ?_ | refine LeO.bind ?_ (fun _ => ?_))
theorem text_Quoted.mono : ∀ a0 k, LeO (text_Quoted.f k a0) (text_Quoted.f (k + 1) a0) := by
 intro a0 k
 obtain ⟨ih0, ih1⟩ := text_Quoted.mono_l k
 unfold text_Quoted.f
 repeat' first
   | (with_reducible first | exact ih0 _ _ | exact ih1 _ _ _ | exact LeO.refl _ | exact LeO.none _ | refine LeO.ite ?_ ?_ | refine LeO.bind ?_ (fun _ => ?_))
theorem text_Quoted.calls (k : Nat) (a0 : ByteArray) (r1 : ByteArray) (r2 : Int) (r3 : Int) (w : World) (h : text_Quoted.f k a0 = some (r1, r2, r3)) :
  Calls Tryz.prog 62 #[.string a0] w fun e w' => e = .returned (.tuple #[.string r1, .int .i64 r2, .int .i64 r3]) ∧ Below w.heap.size w w' := by
 have HB := Aside0.mk (Below.refl w.heap.size w)
 have H : (if a0.toList = ([] : List UInt8) then (text_Quoted.j0 k a0 true) else (if 0 < (a0.size : Int) then (text_Quoted.j0 k a0 ((bt a0 0) != 34)) else (none))) = some (r1, r2, r3) := h
 clear h
 have HC2 := Aside0.mk H
 clear H
 go_enter Tryz.func62, Tryz.ntmps62
 go_upto_region 1 with (fail)
 go_cut [14] (fun v14 wc => ∃ (kq : Nat) (x14_1 : Bool), v14 = .bool x14_1 ∧ Aside0 (text_Quoted.j0 kq a0 x14_1 = some (r1, r2, r3)) ∧ Aside0 (kq ≤ k) ∧ Aside0 (Below w.heap.size w wc))
 case first =>
  have H := HC2.out
  clear HC2
  by_cases c3 : a0.toList = ([] : List UInt8)
  ·rw [if_pos c3] at H
   have c3b0 : (a0.toList == ([] : List UInt8)) = true := beq_iff_eq.mpr c3
   have c3b1 : (a0.toList != ([] : List UInt8)) = false := bne_eq_false_iff_eq.mpr c3
   clear c3
   (first | rw [c3b0] | (simp only [i64_w, i32_w]; rw [c3b0]) | skip)
   have H' := Aside0.mk H
   clear H
   go_wp2
   go_meet
   case rel => exact ⟨_, (true), rs, H', ⟨by first | omega | exact Nat.le_refl _⟩, ⟨bl⟩⟩
  ·rw [if_neg c3] at H
   have c3b0 : (a0.toList == ([] : List UInt8)) = false := beq_eq_false_iff_ne.mpr c3
   have c3b1 : (a0.toList != ([] : List UInt8)) = true := bne_iff_ne.mpr c3
   (first | rw [c3b0] | (simp only [i64_w, i32_w]; rw [c3b0]) | skip)
   by_cases c4 : 0 < (a0.size : Int)
   rotate_left
   ·rw [if_neg c4] at H
    exact ab H
   rw [if_pos c4] at H
   have c4b0 : decide (0 < (a0.size : Int)) = true := decide_eq_true c4
   have c4b1 : decide (0 < a0.size) = true := decide_eq_true (by omega)
   clear c4
   have H' := Aside0.mk H
   clear H
   have p5 : 0 ≤ (0 : Int) := (by omega)
   have q5 : 0 < a0.size := (by have : (0 : Int) < (a0.size : Int) := od; omega)
   have hx5 : ∀ h : 0 < a0.size, ((a0[0]'h).toNat : Int) = bt a0 0 := bt_at a0 0
   clear p5
   have qi5 : (0 < (a0.size : Int)) = True := eq_true (od)
   replace q5 := eq_true q5
   go_wp2
   go_meet
   case rel => exact ⟨_, (((bt a0 0) != 34)), rs, H', ⟨by first | omega | exact Nat.le_refl _⟩, ⟨bl⟩⟩
 case rest =>
  clear HC2
  try clear p2
  try clear c3
  try clear c3b0
  try clear c3b1
  try clear c4
  try clear c4b0
  try clear c4b1
  try clear p5
  try clear q5
  try clear hx5
  try clear qi5
  try clear p5
  try clear q5
  obtain ⟨kq, x14_1, rfl, HA, HJ1, HB⟩ := hcut
  cases kq with
  | zero => exact absurd HA.out (by simp [text_Quoted.j0])
  | succ kj1 =>
   have H := HA.out
   clear HA
   simp only [text_Quoted.j0] at H
   by_cases c6 : x14_1 = true
   ·subst c6
    replace H : (some ((⟨#[]⟩ : ByteArray), 0, 5)) = some (r1, r2, r3) := by rw [if_pos rfl] at H; exact H
    simp only [Option.some.injEq, Prod.mk.injEq] at H
    obtain ⟨rfl, rfl, rfl⟩ := H
    go_wp2
    go_ret3
    exact ⟨rf, bl⟩
   ·replace c6 := Bool.eq_false_iff.mpr c6
    subst c6
    replace H : (text_Quoted.l0 kj1 a0 ([] : List Int) 1) = some (r1, r2, r3) := by rw [if_neg (show ¬ (false = true) by decide)] at H; exact H
    have H' := Aside0.mk H
    clear H
    go_wp2
    go_loopg [5, 6] kj1 (fun kq v5 v6 w' => ∃ (x5_2 : List Int) (x6_2 : Int), v6 = .int .i64 x6_2 ∧ Aside0 (text_Quoted.l0 kq a0 x5_2 x6_2 = some (r1, r2, r3)) ∧ Aside0 (kq ≤ kj1) ∧ Aside0 (Kd.R (Kd.int .u8) 5 w' w.heap.size (fun _ => True) v5 x5_2) ∧ Aside0 (Below w.heap.size w w'))
    case atStart => exact ⟨(([] : List Int)), (1), rs, H', ⟨Nat.le_refl _⟩, ⟨by first | exact Kd.R_nil _ _ _ _ _ | exact Kd.N_nil _ _ _ _ _ | exact Kd.V_nil _ _ _ _ _ | exact Kd.Q_nil _ _ _ _ _ | exact Kd.S_nil _ _ _ _ _⟩, ⟨bl⟩⟩
    case round =>
     clear H'
     try clear p2
     try clear c3
     try clear c3b0
     try clear c3b1
     try clear c4
     try clear c4b0
     try clear c4b1
     try clear p5
     try clear q5
     try clear hx5
     try clear qi5
     try clear c6
     try clear p2
     try clear p5
     try clear q5
     obtain ⟨x5_2, x6_2, rfl, HA, HK2, HO_5, HB⟩ := hrel
     cases gk with
     | zero => exact absurd HA.out (by simp [text_Quoted.l0])
     | succ k2 =>
      have H := HA.out
      clear HA
      simp only [text_Quoted.l0] at H
      by_cases c7 : x6_2 < (a0.size : Int)
      ·rw [if_pos c7] at H
       have c7b0 : decide (x6_2 < (a0.size : Int)) = true := decide_eq_true c7
       clear c7
       by_cases c8 : 0 ≤ x6_2
       rotate_left
       ·rw [if_neg c8] at H
        exact ab H
       rw [if_pos c8] at H
       have c8b0 : decide (0 ≤ x6_2) = true := decide_eq_true c8
       clear c8
       by_cases c10 : (bt a0 x6_2) = 34
       ·rw [if_pos c10] at H
        have c10b0 : ((bt a0 x6_2) == 34) = true := beq_iff_eq.mpr c10
        have c10b1 : ((bt a0 x6_2) != 34) = false := bne_eq_false_iff_eq.mpr c10
        clear c10
        simp only [Option.some.injEq, Prod.mk.injEq] at H
        obtain ⟨rfl, rfl, rfl⟩ := H
        have p9 : 0 ≤ (x6_2 : Int) := od
        have q9 : x6_2 < (a0.size : Int) := od
        have hx9 := bt_at a0 x6_2
        replace p9 := eq_true p9
        replace q9 := eq_true q9
        have hcv11 := own_string (P := Tryz.prog) Tryz.underlying55 Tryz.underlying5 Tryz.underlying9 (Kd.own_of_R HO_5.out)
        go_wp2
        go_ret3
        exact ⟨rf, bl⟩
       ·rw [if_neg c10] at H
        have c10b0 : ((bt a0 x6_2) == 34) = false := beq_eq_false_iff_ne.mpr c10
        have c10b1 : ((bt a0 x6_2) != 34) = true := bne_iff_ne.mpr c10
        by_cases c12 : (bt a0 x6_2) = 92
        ·rw [if_pos c12] at H
         have c12b0 : ((bt a0 x6_2) == 92) = true := beq_iff_eq.mpr c12
         have c12b1 : ((bt a0 x6_2) != 92) = false := bne_eq_false_iff_eq.mpr c12
         clear c12
         obtain ⟨⟨t155, t156⟩, A130, H⟩ := Option.bind_eq_some_iff.mp H
         replace H : (if t156 = 0 then (if x5_2.length < 140737488355328 then (text_Quoted.l0 k2 a0 (x5_2 ++ [t155]) (wrap64 ((wrap64 (x6_2 + 1)) + 1))) else (none)) else (some ((⟨#[]⟩ : ByteArray), 0, t156))) = some (r1, r2, r3) := H
         have A13 := Aside0.mk A130
         clear A130
         by_cases c14 : t156 = 0
         ·rw [if_pos c14] at H
          have c14b0 : (t156 == 0) = true := beq_iff_eq.mpr c14
          have c14b1 : (t156 != 0) = false := bne_eq_false_iff_eq.mpr c14
          clear c14
          by_cases c15 : x5_2.length < 140737488355328
          rotate_left
          ·rw [if_neg c15] at H
           exact ab H
          rw [if_pos c15] at H
          have LMc15 := Aside0.mk c15
          clear c15
          obtain ⟨y157, hy157⟩ : ∃ y_ : List Int, y_ = (x5_2 ++ [t155]) := ⟨_, rfl⟩
          replace H : (text_Quoted.l0 k2 a0 y157 (wrap64 ((wrap64 (x6_2 + 1)) + 1))) = some (r1, r2, r3) := by first | (rw [hy157]; with_reducible exact H) | (have H2_ := (Option.bind_some _ _).symm.trans H; rw [hy157]; with_reducible exact H2_) | (have H2_ := (Option.bind_some _ _).symm.trans H; with_reducible exact H2_) | with_reducible exact H | (rw [hy157]; exact H) | exact H
          have Ny157 := Aside0.mk hy157
          clear hy157
          have H' := Aside0.mk H
          clear H
          have p9 : 0 ≤ (x6_2 : Int) := od
          have q9 : x6_2 < (a0.size : Int) := od
          have hx9 := bt_at a0 x6_2
          replace p9 := eq_true p9
          replace q9 := eq_true q9
          go_wp2_with (first | ((with_reducible refine gate_callee (f := 95) rfl ?_); refine goesL_ (some 37) rfl rfl Tryz.func95 kf rfl #[.string a0, .int .i64 x6_2] rfl ml ?_; (with_reducible refine (text_pair.calls a0 x6_2 t155 t156 _ A13.out).mono ?_); rintro e w' ⟨rfl, ⟨nd, rfl⟩⟩; refine ⟨_, rfl, ?_⟩) | ((with_reducible refine gate_builtin (b := .append) (xs := #[.tmp 49, .tmp 51]) rfl ?_); at_builtin; refine Kd.R_append (Kd.int .u8) (w0 := w) w.heap.size rfl (.tmp 49) (.tmp 51) 55 5 (.int .u8 0) 1 rfl Tryz.underlying55 info5 rfl (by decide) (by omega) u5 x5_2 t155 [.int .u8 t155] (fun _ => True) (fun _ => False) rfl rfl ?aP (fun _ hk => hk.elim) ?aF ?aO ?aB ?aS ?aL ?_; (case aP => exact rfl); (case aB => exact bl); (case aF => exact (fun _ _ => trivial)); (case aO => exact (kr HO_5.out)); (case aS => exact (below_size bl)); (case aL => have := LMc15.out; omega); intro v158 w16 ho hb hg hat; rw [← Ny157.out] at ho; replace HB := Aside0.mk (hb); have HO159 := Aside0.mk (ho); clear HO_5 ho hb hg hat))
          go_roundg k2
          case measure => have := HJ1.out; have := HK2.out; omega
          case rel => exact ⟨(y157), (wrap64 ((wrap64 (x6_2 + 1)) + 1)), rs, H', ⟨by have := HJ1.out; have := HK2.out; omega⟩, ⟨kr HO159.out⟩, ⟨bl⟩⟩
         ·rw [if_neg c14] at H
          have c14b0 : (t156 == 0) = false := beq_eq_false_iff_ne.mpr c14
          have c14b1 : (t156 != 0) = true := bne_iff_ne.mpr c14
          simp only [Option.some.injEq, Prod.mk.injEq] at H
          obtain ⟨rfl, rfl, rfl⟩ := H
          have p9 : 0 ≤ (x6_2 : Int) := od
          have q9 : x6_2 < (a0.size : Int) := od
          have hx9 := bt_at a0 x6_2
          replace p9 := eq_true p9
          replace q9 := eq_true q9
          go_wp2_with (first | ((with_reducible refine gate_callee (f := 95) rfl ?_); refine goesL_ (some 37) rfl rfl Tryz.func95 kf rfl #[.string a0, .int .i64 x6_2] rfl ml ?_; (with_reducible refine (text_pair.calls a0 x6_2 t155 t156 _ A13.out).mono ?_); rintro e w' ⟨rfl, ⟨nd, rfl⟩⟩; refine ⟨_, rfl, ?_⟩))
          go_ret3
          exact ⟨rf, bl⟩
        ·rw [if_neg c12] at H
         have c12b0 : ((bt a0 x6_2) == 92) = false := beq_eq_false_iff_ne.mpr c12
         have c12b1 : ((bt a0 x6_2) != 92) = true := bne_iff_ne.mpr c12
         obtain ⟨t160, A170, H⟩ := Option.bind_eq_some_iff.mp H
         replace H : (if t160 = true then (if x5_2.length < 140737488355328 then (text_Quoted.l0 k2 a0 (x5_2 ++ [bt a0 x6_2]) (wrap64 (x6_2 + 1))) else (none)) else (some ((⟨#[]⟩ : ByteArray), 0, 5))) = some (r1, r2, r3) := H
         have A17 := Aside0.mk A170
         clear A170
         by_cases c18 : t160 = true
         ·subst c18
          replace H : (if x5_2.length < 140737488355328 then (text_Quoted.l0 k2 a0 (x5_2 ++ [bt a0 x6_2]) (wrap64 (x6_2 + 1))) else (none)) = some (r1, r2, r3) := by rw [if_pos rfl] at H; exact H
          by_cases c19 : x5_2.length < 140737488355328
          rotate_left
          ·rw [if_neg c19] at H
           exact ab H
          rw [if_pos c19] at H
          have LMc19 := Aside0.mk c19
          clear c19
          obtain ⟨y161, hy161⟩ : ∃ y_ : List Int, y_ = (x5_2 ++ [bt a0 x6_2]) := ⟨_, rfl⟩
          replace H : (text_Quoted.l0 k2 a0 y161 (wrap64 (x6_2 + 1))) = some (r1, r2, r3) := by first | (rw [hy161]; with_reducible exact H) | (have H2_ := (Option.bind_some _ _).symm.trans H; rw [hy161]; with_reducible exact H2_) | (have H2_ := (Option.bind_some _ _).symm.trans H; with_reducible exact H2_) | with_reducible exact H | (rw [hy161]; exact H) | exact H
          have Ny161 := Aside0.mk hy161
          clear hy161
          have H' := Aside0.mk H
          clear H
          have p9 : 0 ≤ (x6_2 : Int) := od
          have q9 : x6_2 < (a0.size : Int) := od
          have hx9 := bt_at a0 x6_2
          replace p9 := eq_true p9
          replace q9 := eq_true q9
          go_wp2_with (first | ((with_reducible refine gate_callee (f := 58) rfl ?_); refine goesL_ (some 47) rfl rfl Tryz.func58 kf rfl #[.int .u8 (bt a0 x6_2)] rfl ml ?_; (with_reducible refine (text_plain.calls (bt a0 x6_2) true _ A17.out).mono ?_); rintro e w' ⟨rfl, ⟨nd, rfl⟩⟩; refine ⟨_, rfl, ?_⟩) | ((with_reducible refine gate_builtin (b := .append) (xs := #[.tmp 49, .tmp 51]) rfl ?_); at_builtin; refine Kd.R_append (Kd.int .u8) (w0 := w) w.heap.size rfl (.tmp 49) (.tmp 51) 55 5 (.int .u8 0) 1 rfl Tryz.underlying55 info5 rfl (by decide) (by omega) u5 x5_2 (bt a0 x6_2) [.int .u8 (bt a0 x6_2)] (fun _ => True) (fun _ => False) rfl rfl ?aP (fun _ hk => hk.elim) ?aF ?aO ?aB ?aS ?aL ?_; (case aP => exact rfl); (case aB => exact bl); (case aF => exact (fun _ _ => trivial)); (case aO => exact (kr HO_5.out)); (case aS => exact (below_size bl)); (case aL => have := LMc19.out; omega); intro v162 w20 ho hb hg hat; rw [← Ny161.out] at ho; replace HB := Aside0.mk (hb); have HO163 := Aside0.mk (ho); clear HO_5 ho hb hg hat))
          go_roundg k2
          case measure => have := HJ1.out; have := HK2.out; omega
          case rel => exact ⟨(y161), (wrap64 (x6_2 + 1)), rs, H', ⟨by have := HJ1.out; have := HK2.out; omega⟩, ⟨kr HO163.out⟩, ⟨bl⟩⟩
         ·replace c18 := Bool.eq_false_iff.mpr c18
          subst c18
          replace H : (some ((⟨#[]⟩ : ByteArray), 0, 5)) = some (r1, r2, r3) := by rw [if_neg (show ¬ (false = true) by decide)] at H; exact H
          simp only [Option.some.injEq, Prod.mk.injEq] at H
          obtain ⟨rfl, rfl, rfl⟩ := H
          have p9 : 0 ≤ (x6_2 : Int) := od
          have q9 : x6_2 < (a0.size : Int) := od
          have hx9 := bt_at a0 x6_2
          replace p9 := eq_true p9
          replace q9 := eq_true q9
          go_wp2_with (first | ((with_reducible refine gate_callee (f := 58) rfl ?_); refine goesL_ (some 47) rfl rfl Tryz.func58 kf rfl #[.int .u8 (bt a0 x6_2)] rfl ml ?_; (with_reducible refine (text_plain.calls (bt a0 x6_2) false _ A17.out).mono ?_); rintro e w' ⟨rfl, ⟨nd, rfl⟩⟩; refine ⟨_, rfl, ?_⟩))
          go_ret3
          exact ⟨rf, bl⟩
      ·rw [if_neg c7] at H
       have c7b0 : decide (x6_2 < (a0.size : Int)) = false := decide_eq_false c7
       clear c7
       simp only [Option.some.injEq, Prod.mk.injEq] at H
       obtain ⟨rfl, rfl, rfl⟩ := H
       go_wp2
       go_ret3
       exact ⟨rf, bl⟩

/-! ### path_ends: function 32 -/
def path_ends.f (k : Nat) (a0 : ByteArray) : Option (Int) := (strings_HasPrefix.f a0 (⟨#[34]⟩ : ByteArray)).bind fun t164 => (if t164 = true then ((text_Quoted.f k a0).bind fun bt165 => (if bt165.2.2 = 0 then (if 0 ≤ bt165.2.1 then (if bt165.2.1 ≤ (a0.size : Int) then ((strings_IndexByte.f (a0.extract (bt165.2.1 : Int).toNat a0.size) 62).bind fun t168 => (if t168 ≥ 0 then (some (wrap64 (bt165.2.1 + t168))) else (some (-1)))) else (none)) else (none)) else (if 0 ≤ (a0.size : Int) then ((strings_IndexByte.f a0 62).bind fun t169 => (if t169 ≥ 0 then (some (wrap64 (0 + t169))) else (some (-1)))) else (none)))) else (if 0 ≤ (a0.size : Int) then ((strings_IndexByte.f a0 62).bind fun t170 => (if t170 ≥ 0 then (some (wrap64 (0 + t170))) else (some (-1)))) else (none)))
theorem path_ends.mono : ∀ a0 k, LeO (path_ends.f k a0) (path_ends.f (k + 1) a0) := by
 intro a0 k
 unfold path_ends.f
 repeat' first
   | (with_reducible first | exact text_Quoted.mono _ _ | exact LeO.refl _ | exact LeO.none _ | refine LeO.ite ?_ ?_ | refine LeO.bind ?_ (fun _ => ?_))
theorem path_ends.calls (k : Nat) (a0 : ByteArray) (r : Int) (w : World) (h : path_ends.f k a0 = some r) :
  Calls Tryz.prog 32 #[.string a0] w fun e w' => e = .returned (.int .i64 r) ∧ Below w.heap.size w w' := by
 have HB := Aside0.mk (Below.refl w.heap.size w)
 have H : ((strings_HasPrefix.f a0 (⟨#[34]⟩ : ByteArray)).bind fun t164 => (if t164 = true then ((text_Quoted.f k a0).bind fun bt165 => (if bt165.2.2 = 0 then (if 0 ≤ bt165.2.1 then (if bt165.2.1 ≤ (a0.size : Int) then ((strings_IndexByte.f (a0.extract (bt165.2.1 : Int).toNat a0.size) 62).bind fun t168 => (if t168 ≥ 0 then (some (wrap64 (bt165.2.1 + t168))) else (some (-1)))) else (none)) else (none)) else (if 0 ≤ (a0.size : Int) then ((strings_IndexByte.f a0 62).bind fun t169 => (if t169 ≥ 0 then (some (wrap64 (0 + t169))) else (some (-1)))) else (none)))) else (if 0 ≤ (a0.size : Int) then ((strings_IndexByte.f a0 62).bind fun t170 => (if t170 ≥ 0 then (some (wrap64 (0 + t170))) else (some (-1)))) else (none)))) = some r := h
 clear h
 obtain ⟨t164, A20, H⟩ := Option.bind_eq_some_iff.mp H
 replace H : (if t164 = true then ((text_Quoted.f k a0).bind fun bt165 => (if bt165.2.2 = 0 then (if 0 ≤ bt165.2.1 then (if bt165.2.1 ≤ (a0.size : Int) then ((strings_IndexByte.f (a0.extract (bt165.2.1 : Int).toNat a0.size) 62).bind fun t168 => (if t168 ≥ 0 then (some (wrap64 (bt165.2.1 + t168))) else (some (-1)))) else (none)) else (none)) else (if 0 ≤ (a0.size : Int) then ((strings_IndexByte.f a0 62).bind fun t169 => (if t169 ≥ 0 then (some (wrap64 (0 + t169))) else (some (-1)))) else (none)))) else (if 0 ≤ (a0.size : Int) then ((strings_IndexByte.f a0 62).bind fun t170 => (if t170 ≥ 0 then (some (wrap64 (0 + t170))) else (some (-1)))) else (none))) = some r := H
 have A2 := Aside0.mk A20
 clear A20
 by_cases c3 : t164 = true
 ·subst c3
  replace H : ((text_Quoted.f k a0).bind fun bt165 => (if bt165.2.2 = 0 then (if 0 ≤ bt165.2.1 then (if bt165.2.1 ≤ (a0.size : Int) then ((strings_IndexByte.f (a0.extract (bt165.2.1 : Int).toNat a0.size) 62).bind fun t168 => (if t168 ≥ 0 then (some (wrap64 (bt165.2.1 + t168))) else (some (-1)))) else (none)) else (none)) else (if 0 ≤ (a0.size : Int) then ((strings_IndexByte.f a0 62).bind fun t169 => (if t169 ≥ 0 then (some (wrap64 (0 + t169))) else (some (-1)))) else (none)))) = some r := by rw [if_pos rfl] at H; exact H
  obtain ⟨⟨t165, t166, t167⟩, A40, H⟩ := Option.bind_eq_some_iff.mp H
  replace H : (if t167 = 0 then (if 0 ≤ t166 then (if t166 ≤ (a0.size : Int) then ((strings_IndexByte.f (a0.extract (t166 : Int).toNat a0.size) 62).bind fun t168 => (if t168 ≥ 0 then (some (wrap64 (t166 + t168))) else (some (-1)))) else (none)) else (none)) else (if 0 ≤ (a0.size : Int) then ((strings_IndexByte.f a0 62).bind fun t169 => (if t169 ≥ 0 then (some (wrap64 (0 + t169))) else (some (-1)))) else (none))) = some r := H
  have A4 := Aside0.mk A40
  clear A40
  by_cases c5 : t167 = 0
  ·rw [if_pos c5] at H
   have c5b0 : (t167 == 0) = true := beq_iff_eq.mpr c5
   have c5b1 : (t167 != 0) = false := bne_eq_false_iff_eq.mpr c5
   clear c5
   by_cases c6 : 0 ≤ t166
   rotate_left
   ·rw [if_neg c6] at H
    exact ab H
   rw [if_pos c6] at H
   have c6b0 := eq_true c6
   have c6b1 : decide (0 ≤ t166) = true := decide_eq_true c6
   clear c6
   by_cases c7 : t166 ≤ (a0.size : Int)
   rotate_left
   ·rw [if_neg c7] at H
    exact ab H
   rw [if_pos c7] at H
   have c7b0 := eq_true c7
   have c7b1 : decide (t166 ≤ (a0.size : Int)) = true := decide_eq_true c7
   clear c7
   obtain ⟨t168, A80, H⟩ := Option.bind_eq_some_iff.mp H
   replace H : (if t168 ≥ 0 then (some (wrap64 (t166 + t168))) else (some (-1))) = some r := H
   have A8 := Aside0.mk A80
   clear A80
   by_cases c9 : t168 ≥ 0
   ·rw [if_pos c9] at H
    have c9b0 : decide (0 ≤ t168) = true := decide_eq_true c9
    clear c9
    obtain rfl := Option.some.inj H
    go_enter Tryz.func32, Tryz.ntmps32
    go_wp2_with (first | ((with_reducible refine gate_callee (f := 38) rfl ?_); refine goesL_ (some 9) rfl rfl Tryz.func38 kf rfl #[.string a0, .string (⟨#[34]⟩ : ByteArray)] rfl ml ?_; (with_reducible refine (strings_HasPrefix.calls a0 (⟨#[34]⟩ : ByteArray) true _ A2.out).mono ?_); rintro e w' ⟨rfl, ⟨nd, rfl⟩⟩; refine ⟨_, rfl, ?_⟩) | ((with_reducible refine gate_callee (f := 62) rfl ?_); refine goesL_ (some 12) rfl rfl Tryz.func62 kf rfl #[.string a0] rfl ml ?_; (with_reducible refine (text_Quoted.calls k a0 t165 t166 t167 _ A4.out).mono ?_); rintro e w10 ⟨rfl, hb⟩; refine ⟨_, rfl, ?_⟩; replace HB := Aside0.mk (below_step bl hb); (try clear hb); (try clear hb2); (try clear hk); (try clear hi)) | ((with_reducible refine gate_callee (f := 63) rfl ?_); refine goesL_ (some 22) rfl rfl Tryz.func63 kf rfl #[.string (a0.extract (t166 : Int).toNat a0.size), .int .u8 62] rfl ml ?_; (with_reducible refine (strings_IndexByte.calls (a0.extract (t166 : Int).toNat a0.size) 62 t168 _ A8.out).mono ?_); rintro e w' ⟨rfl, ⟨nd, rfl⟩⟩; refine ⟨_, rfl, ?_⟩))
    go_ret
    exact ⟨rf, bl⟩
   ·rw [if_neg c9] at H
    have c9b0 : decide (0 ≤ t168) = false := decide_eq_false c9
    clear c9
    obtain rfl := Option.some.inj H
    go_enter Tryz.func32, Tryz.ntmps32
    go_wp2_with (first | ((with_reducible refine gate_callee (f := 38) rfl ?_); refine goesL_ (some 9) rfl rfl Tryz.func38 kf rfl #[.string a0, .string (⟨#[34]⟩ : ByteArray)] rfl ml ?_; (with_reducible refine (strings_HasPrefix.calls a0 (⟨#[34]⟩ : ByteArray) true _ A2.out).mono ?_); rintro e w' ⟨rfl, ⟨nd, rfl⟩⟩; refine ⟨_, rfl, ?_⟩) | ((with_reducible refine gate_callee (f := 62) rfl ?_); refine goesL_ (some 12) rfl rfl Tryz.func62 kf rfl #[.string a0] rfl ml ?_; (with_reducible refine (text_Quoted.calls k a0 t165 t166 t167 _ A4.out).mono ?_); rintro e w11 ⟨rfl, hb⟩; refine ⟨_, rfl, ?_⟩; replace HB := Aside0.mk (below_step bl hb); (try clear hb); (try clear hb2); (try clear hk); (try clear hi)) | ((with_reducible refine gate_callee (f := 63) rfl ?_); refine goesL_ (some 22) rfl rfl Tryz.func63 kf rfl #[.string (a0.extract (t166 : Int).toNat a0.size), .int .u8 62] rfl ml ?_; (with_reducible refine (strings_IndexByte.calls (a0.extract (t166 : Int).toNat a0.size) 62 t168 _ A8.out).mono ?_); rintro e w' ⟨rfl, ⟨nd, rfl⟩⟩; refine ⟨_, rfl, ?_⟩))
    go_ret
    exact ⟨rf, bl⟩
  ·rw [if_neg c5] at H
   have c5b0 : (t167 == 0) = false := beq_eq_false_iff_ne.mpr c5
   have c5b1 : (t167 != 0) = true := bne_iff_ne.mpr c5
   by_cases c12 : 0 ≤ (a0.size : Int)
   rotate_left
   ·rw [if_neg c12] at H
    exact ab H
   rw [if_pos c12] at H
   have c12b0 := eq_true c12
   have c12b1 : decide (0 ≤ (a0.size : Int)) = true := decide_eq_true c12
   clear c12
   obtain ⟨t169, A130, H⟩ := Option.bind_eq_some_iff.mp H
   replace H : (if t169 ≥ 0 then (some (wrap64 (0 + t169))) else (some (-1))) = some r := H
   have A13 := Aside0.mk A130
   clear A130
   by_cases c14 : t169 ≥ 0
   ·rw [if_pos c14] at H
    have c14b0 : decide (0 ≤ t169) = true := decide_eq_true c14
    clear c14
    obtain rfl := Option.some.inj H
    go_enter Tryz.func32, Tryz.ntmps32
    go_wp2_with (first | ((with_reducible refine gate_callee (f := 38) rfl ?_); refine goesL_ (some 9) rfl rfl Tryz.func38 kf rfl #[.string a0, .string (⟨#[34]⟩ : ByteArray)] rfl ml ?_; (with_reducible refine (strings_HasPrefix.calls a0 (⟨#[34]⟩ : ByteArray) true _ A2.out).mono ?_); rintro e w' ⟨rfl, ⟨nd, rfl⟩⟩; refine ⟨_, rfl, ?_⟩) | ((with_reducible refine gate_callee (f := 62) rfl ?_); refine goesL_ (some 12) rfl rfl Tryz.func62 kf rfl #[.string a0] rfl ml ?_; (with_reducible refine (text_Quoted.calls k a0 t165 t166 t167 _ A4.out).mono ?_); rintro e w15 ⟨rfl, hb⟩; refine ⟨_, rfl, ?_⟩; replace HB := Aside0.mk (below_step bl hb); (try clear hb); (try clear hb2); (try clear hk); (try clear hi)) | ((with_reducible refine gate_callee (f := 63) rfl ?_); refine goesL_ (some 22) rfl rfl Tryz.func63 kf rfl #[.string a0, .int .u8 62] rfl ml ?_; (with_reducible refine (strings_IndexByte.calls a0 62 t169 _ A13.out).mono ?_); rintro e w' ⟨rfl, ⟨nd, rfl⟩⟩; refine ⟨_, rfl, ?_⟩))
    go_ret
    exact ⟨rf, bl⟩
   ·rw [if_neg c14] at H
    have c14b0 : decide (0 ≤ t169) = false := decide_eq_false c14
    clear c14
    obtain rfl := Option.some.inj H
    go_enter Tryz.func32, Tryz.ntmps32
    go_wp2_with (first | ((with_reducible refine gate_callee (f := 38) rfl ?_); refine goesL_ (some 9) rfl rfl Tryz.func38 kf rfl #[.string a0, .string (⟨#[34]⟩ : ByteArray)] rfl ml ?_; (with_reducible refine (strings_HasPrefix.calls a0 (⟨#[34]⟩ : ByteArray) true _ A2.out).mono ?_); rintro e w' ⟨rfl, ⟨nd, rfl⟩⟩; refine ⟨_, rfl, ?_⟩) | ((with_reducible refine gate_callee (f := 62) rfl ?_); refine goesL_ (some 12) rfl rfl Tryz.func62 kf rfl #[.string a0] rfl ml ?_; (with_reducible refine (text_Quoted.calls k a0 t165 t166 t167 _ A4.out).mono ?_); rintro e w16 ⟨rfl, hb⟩; refine ⟨_, rfl, ?_⟩; replace HB := Aside0.mk (below_step bl hb); (try clear hb); (try clear hb2); (try clear hk); (try clear hi)) | ((with_reducible refine gate_callee (f := 63) rfl ?_); refine goesL_ (some 22) rfl rfl Tryz.func63 kf rfl #[.string a0, .int .u8 62] rfl ml ?_; (with_reducible refine (strings_IndexByte.calls a0 62 t169 _ A13.out).mono ?_); rintro e w' ⟨rfl, ⟨nd, rfl⟩⟩; refine ⟨_, rfl, ?_⟩))
    go_ret
    exact ⟨rf, bl⟩
 ·replace c3 := Bool.eq_false_iff.mpr c3
  subst c3
  replace H : (if 0 ≤ (a0.size : Int) then ((strings_IndexByte.f a0 62).bind fun t170 => (if t170 ≥ 0 then (some (wrap64 (0 + t170))) else (some (-1)))) else (none)) = some r := by rw [if_neg (show ¬ (false = true) by decide)] at H; exact H
  by_cases c17 : 0 ≤ (a0.size : Int)
  rotate_left
  ·rw [if_neg c17] at H
   exact ab H
  rw [if_pos c17] at H
  have c17b0 := eq_true c17
  have c17b1 : decide (0 ≤ (a0.size : Int)) = true := decide_eq_true c17
  clear c17
  obtain ⟨t170, A180, H⟩ := Option.bind_eq_some_iff.mp H
  replace H : (if t170 ≥ 0 then (some (wrap64 (0 + t170))) else (some (-1))) = some r := H
  have A18 := Aside0.mk A180
  clear A180
  by_cases c19 : t170 ≥ 0
  ·rw [if_pos c19] at H
   have c19b0 : decide (0 ≤ t170) = true := decide_eq_true c19
   clear c19
   obtain rfl := Option.some.inj H
   go_enter Tryz.func32, Tryz.ntmps32
   go_wp2_with (first | ((with_reducible refine gate_callee (f := 38) rfl ?_); refine goesL_ (some 9) rfl rfl Tryz.func38 kf rfl #[.string a0, .string (⟨#[34]⟩ : ByteArray)] rfl ml ?_; (with_reducible refine (strings_HasPrefix.calls a0 (⟨#[34]⟩ : ByteArray) false _ A2.out).mono ?_); rintro e w' ⟨rfl, ⟨nd, rfl⟩⟩; refine ⟨_, rfl, ?_⟩) | ((with_reducible refine gate_callee (f := 63) rfl ?_); refine goesL_ (some 22) rfl rfl Tryz.func63 kf rfl #[.string a0, .int .u8 62] rfl ml ?_; (with_reducible refine (strings_IndexByte.calls a0 62 t170 _ A18.out).mono ?_); rintro e w' ⟨rfl, ⟨nd, rfl⟩⟩; refine ⟨_, rfl, ?_⟩))
   go_ret
   exact ⟨rf, bl⟩
  ·rw [if_neg c19] at H
   have c19b0 : decide (0 ≤ t170) = false := decide_eq_false c19
   clear c19
   obtain rfl := Option.some.inj H
   go_enter Tryz.func32, Tryz.ntmps32
   go_wp2_with (first | ((with_reducible refine gate_callee (f := 38) rfl ?_); refine goesL_ (some 9) rfl rfl Tryz.func38 kf rfl #[.string a0, .string (⟨#[34]⟩ : ByteArray)] rfl ml ?_; (with_reducible refine (strings_HasPrefix.calls a0 (⟨#[34]⟩ : ByteArray) false _ A2.out).mono ?_); rintro e w' ⟨rfl, ⟨nd, rfl⟩⟩; refine ⟨_, rfl, ?_⟩) | ((with_reducible refine gate_callee (f := 63) rfl ?_); refine goesL_ (some 22) rfl rfl Tryz.func63 kf rfl #[.string a0, .int .u8 62] rfl ml ?_; (with_reducible refine (strings_IndexByte.calls a0 62 t170 _ A18.out).mono ?_); rintro e w' ⟨rfl, ⟨nd, rfl⟩⟩; refine ⟨_, rfl, ?_⟩))
   go_ret
   exact ⟨rf, bl⟩

/-! ### addr_local: function 65 -/
def addr_local.f (k : Nat) (a0 : ByteArray) : Option (ByteArray × ByteArray × Bool) := (strings_HasPrefix.f a0 (⟨#[34]⟩ : ByteArray)).bind fun t171 => (if t171 = true then ((text_Quoted.f k a0).bind fun bt172 => (if 0 ≤ bt172.2.1 then (if bt172.2.1 ≤ (a0.size : Int) then (if bt172.2.2 = 0 then (some (bt172.1, a0.extract (bt172.2.1 : Int).toNat a0.size, (bt172.1.toList != ([] : List UInt8)))) else (some (bt172.1, a0.extract (bt172.2.1 : Int).toNat a0.size, false))) else (none)) else (none))) else ((strings_IndexByte.f a0 64).bind fun t175 => (if 0 ≤ (mx t175 0) then (if (mx t175 0) ≤ (a0.size : Int) then ((text_DotAtom.f k (a0.extract 0 ((mx t175 0) : Int).toNat)).bind fun t176 => (some (a0.extract 0 ((mx t175 0) : Int).toNat, a0.extract ((mx t175 0) : Int).toNat a0.size, t176))) else (none)) else (none))))
theorem addr_local.mono : ∀ a0 k, LeO (addr_local.f k a0) (addr_local.f (k + 1) a0) := by
 intro a0 k
 unfold addr_local.f
 repeat' first
   | (with_reducible first | exact text_DotAtom.mono _ _ | exact text_Quoted.mono _ _ | exact LeO.refl _ | exact LeO.none _ | refine LeO.ite ?_ ?_ | refine LeO.bind ?_ (fun _ => ?_))
def addr_local.T3 : Bool × List (List Nat × List Nat) := (true, [([], []), ([], []), ([], []), ([1, 2], [1, 2]), ([], []), ([4], [4]), ([5], [5]), ([6], [6]), ([7, 6], [6, 7]), ([6, 8], [6, 8]), ([0, 6, 0], [0]), ([3, 10, 0, 1, 2, 3, 10], [3]), ([9, 11, 0, 1, 2, 3, 4, 5, 6, 7, 8, 9, 10, 11], [9])])
def addr_local.B3 : List Nat := [0, 0, 0, 6, 0, 16, 48, 112, 240, 496, 113, 1151, 4095]
theorem addr_local.tab3 : rtab .any (opsOf Tryz.f65 3) = addr_local.T3 := by kernel_rfl
theorem addr_local.bits3 : waitsOk addr_local.T3.2 addr_local.B3 = true := by kernel_rfl
def addr_local.T5 : Bool × List (List Nat × List Nat) := (true, [([], []), ([], []), ([0, 1], [0, 1]), ([], []), ([], []), ([3, 4], [3, 4]), ([], []), ([], []), ([6, 7], [6, 7]), ([8], [8]), ([2, 9, 0, 1, 2], [2]), ([5, 10, 0, 1, 2, 3, 4, 5, 10], [5]), ([9, 11, 0, 1, 2, 3, 4, 5, 6, 7, 8, 9, 10, 11], [9])])
def addr_local.B5 : List Nat := [0, 0, 3, 0, 0, 24, 0, 0, 192, 448, 967, 2047, 4095]
theorem addr_local.tab5 : rtab .any (opsOf Tryz.f65 5) = addr_local.T5 := by kernel_rfl
theorem addr_local.bits5 : waitsOk addr_local.T5.2 addr_local.B5 = true := by kernel_rfl
theorem addr_local.calls (k : Nat) (a0 : ByteArray) (r1 : ByteArray) (r2 : ByteArray) (r3 : Bool) (w : World) (hG : Glob w) (h : addr_local.f k a0 = some (r1, r2, r3)) :
  Calls Tryz.prog 65 #[.string a0] w fun e w' => e = .returned (.tuple #[.string r1, .string r2, .bool r3]) ∧ Below w.heap.size w w' := by
 have HB := Aside0.mk (Below.refl w.heap.size w)
 have HG := Aside0.mk hG
 clear hG
 have H : ((strings_HasPrefix.f a0 (⟨#[34]⟩ : ByteArray)).bind fun t171 => (if t171 = true then ((text_Quoted.f k a0).bind fun bt172 => (if 0 ≤ bt172.2.1 then (if bt172.2.1 ≤ (a0.size : Int) then (if bt172.2.2 = 0 then (some (bt172.1, a0.extract (bt172.2.1 : Int).toNat a0.size, (bt172.1.toList != ([] : List UInt8)))) else (some (bt172.1, a0.extract (bt172.2.1 : Int).toNat a0.size, false))) else (none)) else (none))) else ((strings_IndexByte.f a0 64).bind fun t175 => (if 0 ≤ (mx t175 0) then (if (mx t175 0) ≤ (a0.size : Int) then ((text_DotAtom.f k (a0.extract 0 ((mx t175 0) : Int).toNat)).bind fun t176 => (some (a0.extract 0 ((mx t175 0) : Int).toNat, a0.extract ((mx t175 0) : Int).toNat a0.size, t176))) else (none)) else (none))))) = some (r1, r2, r3) := h
 clear h
 obtain ⟨t171, A20, H⟩ := Option.bind_eq_some_iff.mp H
 replace H : (if t171 = true then ((text_Quoted.f k a0).bind fun bt172 => (if 0 ≤ bt172.2.1 then (if bt172.2.1 ≤ (a0.size : Int) then (if bt172.2.2 = 0 then (some (bt172.1, a0.extract (bt172.2.1 : Int).toNat a0.size, (bt172.1.toList != ([] : List UInt8)))) else (some (bt172.1, a0.extract (bt172.2.1 : Int).toNat a0.size, false))) else (none)) else (none))) else ((strings_IndexByte.f a0 64).bind fun t175 => (if 0 ≤ (mx t175 0) then (if (mx t175 0) ≤ (a0.size : Int) then ((text_DotAtom.f k (a0.extract 0 ((mx t175 0) : Int).toNat)).bind fun t176 => (some (a0.extract 0 ((mx t175 0) : Int).toNat, a0.extract ((mx t175 0) : Int).toNat a0.size, t176))) else (none)) else (none)))) = some (r1, r2, r3) := H
 have A2 := Aside0.mk A20
 clear A20
 by_cases c3 : t171 = true
 ·subst c3
  replace H : ((text_Quoted.f k a0).bind fun bt172 => (if 0 ≤ bt172.2.1 then (if bt172.2.1 ≤ (a0.size : Int) then (if bt172.2.2 = 0 then (some (bt172.1, a0.extract (bt172.2.1 : Int).toNat a0.size, (bt172.1.toList != ([] : List UInt8)))) else (some (bt172.1, a0.extract (bt172.2.1 : Int).toNat a0.size, false))) else (none)) else (none))) = some (r1, r2, r3) := by rw [if_pos rfl] at H; exact H
  obtain ⟨⟨t172, t173, t174⟩, A40, H⟩ := Option.bind_eq_some_iff.mp H
  replace H : (if 0 ≤ t173 then (if t173 ≤ (a0.size : Int) then (if t174 = 0 then (some (t172, a0.extract (t173 : Int).toNat a0.size, (t172.toList != ([] : List UInt8)))) else (some (t172, a0.extract (t173 : Int).toNat a0.size, false))) else (none)) else (none)) = some (r1, r2, r3) := H
  have A4 := Aside0.mk A40
  clear A40
  by_cases c5 : 0 ≤ t173
  rotate_left
  ·rw [if_neg c5] at H
   exact ab H
  rw [if_pos c5] at H
  have c5b0 := eq_true c5
  have c5b1 : decide (0 ≤ t173) = true := decide_eq_true c5
  clear c5
  by_cases c6 : t173 ≤ (a0.size : Int)
  rotate_left
  ·rw [if_neg c6] at H
   exact ab H
  rw [if_pos c6] at H
  have c6b0 := eq_true c6
  have c6b1 : decide (t173 ≤ (a0.size : Int)) = true := decide_eq_true c6
  clear c6
  by_cases c7 : t174 = 0
  ·rw [if_pos c7] at H
   have c7b0 : (t174 == 0) = true := beq_iff_eq.mpr c7
   have c7b1 : (t174 != 0) = false := bne_eq_false_iff_eq.mpr c7
   clear c7
   simp only [Option.some.injEq, Prod.mk.injEq] at H
   obtain ⟨rfl, rfl, rfl⟩ := H
   go_enter Tryz.func65, Tryz.ntmps65
   try go_wp2_with (first | ((with_reducible refine gate_callee (f := 38) rfl ?_); refine goesL_ (some 10) rfl rfl Tryz.func38 kf rfl #[.string a0, .string (⟨#[34]⟩ : ByteArray)] rfl ml ?_; (with_reducible refine (strings_HasPrefix.calls a0 (⟨#[34]⟩ : ByteArray) true _ A2.out).mono ?_); rintro e w' ⟨rfl, ⟨nd, rfl⟩⟩; refine ⟨_, rfl, ?_⟩) | ((with_reducible refine gate_callee (f := 62) rfl ?_); refine goesL_ (some 13) rfl rfl Tryz.func62 kf rfl #[.string a0] rfl ml ?_; (with_reducible refine (text_Quoted.calls k a0 t172 t173 t174 _ A4.out).mono ?_); rintro e w8 ⟨rfl, hb⟩; refine ⟨_, rfl, ?_⟩; replace HB := Aside0.mk (below_step bl hb); (try clear hb); (try clear hb2); (try clear hk); (try clear hi)))
   replace HB := Aside0.mk (below_drew1 HB.out)
   refine start_ (n := 13) (S := fun w' => True) (ds := []) #[false, false, false, false, false, false, false, false, false, false, false, false, false] kf rfl rfl trivial (fun hHeld => ?_); refine with_tabW addr_local.tab3 addr_local.bits3 (fun HT_ HW_ => ?_)
   generalize w8.drew = w9 at HB hHeld ⊢
   refine pure_ (i := 0) (N := some 17) (v := ?_) (a' := ?_) #[true, false, false, false, false, false, false, false, false, false, false, false, false] rfl rfl (any_of HT_.out kf) (fun _ _ _ h => h) (Or.inl ⟨by rfl, ?_⟩) ?_ ?_
   rotate_left
   ·intro w'
    go_simp
    with_reducible rfl
   rotate_left
   ·simp only [Act.put, sA, sB, sC, i64_w, i32_w]
    rfl
   refine pure_ (i := 1) (N := some 18) (v := ?_) (a' := ?_) #[true, true, false, false, false, false, false, false, false, false, false, false, false] rfl rfl (any_of HT_.out kf) (fun _ _ _ h => h) (Or.inl ⟨by rfl, ?_⟩) ?_ ?_
   rotate_left
   ·intro w'
    go_simp
    with_reducible rfl
   rotate_left
   ·simp only [Act.put, sA, sB, sC, i64_w, i32_w]
    rfl
   refine pure_ (i := 2) (N := some 19) (v := ?_) (a' := ?_) #[true, true, true, false, false, false, false, false, false, false, false, false, false] rfl rfl (any_of HT_.out kf) (fun _ _ _ h => h) (Or.inl ⟨by rfl, ?_⟩) ?_ ?_
   rotate_left
   ·intro w'
    go_simp
    with_reducible rfl
   rotate_left
   ·simp only [Act.put, sA, sB, sC, i64_w, i32_w]
    rfl
   refine pure_ (i := 3) (N := some 20) (v := ?_) (a' := ?_) #[true, true, true, true, false, false, false, false, false, false, false, false, false] rfl rfl (any_of HT_.out kf) (fun _ _ _ h => h) (Or.inl ⟨by rfl, ?_⟩) ?_ ?_
   rotate_left
   ·intro w'
    go_simp
    with_reducible rfl
   rotate_left
   ·simp only [Act.put, sA, sB, sC, i64_w, i32_w]
    rfl
   refine pure_ (i := 4) (N := some 21) (v := ?_) (a' := ?_) #[true, true, true, true, true, false, false, false, false, false, false, false, false] rfl rfl (any_of HT_.out kf) (fun _ _ _ h => h) (Or.inl ⟨by rfl, ?_⟩) ?_ ?_
   rotate_left
   ·intro w'
    go_simp
    with_reducible rfl
   rotate_left
   ·simp only [Act.put, sA, sB, sC, i64_w, i32_w]
    rfl
   refine pure_ (i := 5) (N := some 22) (v := ?_) (a' := ?_) #[true, true, true, true, true, true, false, false, false, false, false, false, false] rfl rfl (any_of HT_.out kf) (fun _ _ _ h => h) (Or.inl ⟨by rfl, ?_⟩) ?_ ?_
   rotate_left
   ·intro w'
    go_simp
    with_reducible rfl
   rotate_left
   ·simp only [Act.put, sA, sB, sC, i64_w, i32_w]
    rfl
   refine pure_ (i := 6) (N := some 23) (v := ?_) (a' := ?_) #[true, true, true, true, true, true, true, false, false, false, false, false, false] rfl rfl (any_of HT_.out kf) (fun _ _ _ h => h) (Or.inl ⟨by rfl, ?_⟩) ?_ ?_
   rotate_left
   ·intro w'
    go_simp
    with_reducible rfl
   rotate_left
   ·simp only [Act.put, sA, sB, sC, i64_w, i32_w]
    rfl
   refine pure_ (i := 7) (N := some 24) (v := ?_) (a' := ?_) #[true, true, true, true, true, true, true, true, false, false, false, false, false] rfl rfl (any_of HT_.out kf) (fun _ _ _ h => h) (Or.inl ⟨by rfl, ?_⟩) ?_ ?_
   rotate_left
   ·intro w'
    go_simp
    with_reducible rfl
   rotate_left
   ·simp only [Act.put, sA, sB, sC, i64_w, i32_w]
    rfl
   refine pure_ (i := 8) (N := some 25) (v := ?_) (a' := ?_) #[true, true, true, true, true, true, true, true, true, false, false, false, false] rfl rfl (any_of HT_.out kf) (fun _ _ _ h => h) (Or.inl ⟨by rfl, ?_⟩) ?_ ?_
   rotate_left
   ·intro w'
    go_simp
    with_reducible rfl
   rotate_left
   ·simp only [Act.put, sA, sB, sC, i64_w, i32_w]
    rfl
   refine pure_ (i := 9) (N := some 26) (v := ?_) (a' := ?_) #[true, true, true, true, true, true, true, true, true, true, false, false, false] rfl rfl (any_of HT_.out kf) (fun _ _ _ h => h) (Or.inl ⟨by rfl, ?_⟩) ?_ ?_
   rotate_left
   ·intro w'
    go_simp
    with_reducible rfl
   rotate_left
   ·simp only [Act.put, sA, sB, sC, i64_w, i32_w]
    rfl
   refine pure_ (i := 10) (N := some 2) (v := ?_) (a' := ?_) #[true, true, true, true, true, true, true, true, true, true, true, false, false] rfl rfl (any_of HT_.out kf) (fun _ _ _ h => h) (Or.inl ⟨by rfl, ?_⟩) ?_ ?_
   rotate_left
   ·intro w'
    go_simp
    with_reducible rfl
   rotate_left
   ·simp only [Act.put, sA, sB, sC, i64_w, i32_w]
    rfl
   refine pure_ (i := 11) (N := some 3) (v := ?_) (a' := ?_) #[true, true, true, true, true, true, true, true, true, true, true, true, false] rfl rfl (any_of HT_.out kf) (fun _ _ _ h => h) (Or.inl ⟨by rfl, ?_⟩) ?_ ?_
   rotate_left
   ·intro w'
    go_simp
    with_reducible rfl
   rotate_left
   ·simp only [Act.put, sA, sB, sC, i64_w, i32_w]
    rfl
   refine pure_ (i := 12) (N := some 4) (v := ?_) (a' := ?_) #[true, true, true, true, true, true, true, true, true, true, true, true, true] rfl rfl (any_of HT_.out kf) (fun _ _ _ h => h) (Or.inl ⟨by rfl, ?_⟩) ?_ ?_
   rotate_left
   ·intro w'
    go_simp
    with_reducible rfl
   rotate_left
   ·simp only [Act.put, sA, sB, sC, i64_w, i32_w]
    rfl
   refine done_ (done_of HT_.out kf) ?_
   try go_wp2
   go_ret3
   exact ⟨rf, bl⟩
  ·rw [if_neg c7] at H
   have c7b0 : (t174 == 0) = false := beq_eq_false_iff_ne.mpr c7
   have c7b1 : (t174 != 0) = true := bne_iff_ne.mpr c7
   simp only [Option.some.injEq, Prod.mk.injEq] at H
   obtain ⟨rfl, rfl, rfl⟩ := H
   go_enter Tryz.func65, Tryz.ntmps65
   try go_wp2_with (first | ((with_reducible refine gate_callee (f := 38) rfl ?_); refine goesL_ (some 10) rfl rfl Tryz.func38 kf rfl #[.string a0, .string (⟨#[34]⟩ : ByteArray)] rfl ml ?_; (with_reducible refine (strings_HasPrefix.calls a0 (⟨#[34]⟩ : ByteArray) true _ A2.out).mono ?_); rintro e w' ⟨rfl, ⟨nd, rfl⟩⟩; refine ⟨_, rfl, ?_⟩) | ((with_reducible refine gate_callee (f := 62) rfl ?_); refine goesL_ (some 13) rfl rfl Tryz.func62 kf rfl #[.string a0] rfl ml ?_; (with_reducible refine (text_Quoted.calls k a0 t172 t173 t174 _ A4.out).mono ?_); rintro e w10 ⟨rfl, hb⟩; refine ⟨_, rfl, ?_⟩; replace HB := Aside0.mk (below_step bl hb); (try clear hb); (try clear hb2); (try clear hk); (try clear hi)))
   replace HB := Aside0.mk (below_drew1 HB.out)
   refine start_ (n := 13) (S := fun w' => True) (ds := []) #[false, false, false, false, false, false, false, false, false, false, false, false, false] kf rfl rfl trivial (fun hHeld => ?_); refine with_tabW addr_local.tab3 addr_local.bits3 (fun HT_ HW_ => ?_)
   generalize w10.drew = w11 at HB hHeld ⊢
   refine pure_ (i := 0) (N := some 17) (v := ?_) (a' := ?_) #[true, false, false, false, false, false, false, false, false, false, false, false, false] rfl rfl (any_of HT_.out kf) (fun _ _ _ h => h) (Or.inl ⟨by rfl, ?_⟩) ?_ ?_
   rotate_left
   ·intro w'
    go_simp
    with_reducible rfl
   rotate_left
   ·simp only [Act.put, sA, sB, sC, i64_w, i32_w]
    rfl
   refine pure_ (i := 1) (N := some 18) (v := ?_) (a' := ?_) #[true, true, false, false, false, false, false, false, false, false, false, false, false] rfl rfl (any_of HT_.out kf) (fun _ _ _ h => h) (Or.inl ⟨by rfl, ?_⟩) ?_ ?_
   rotate_left
   ·intro w'
    go_simp
    with_reducible rfl
   rotate_left
   ·simp only [Act.put, sA, sB, sC, i64_w, i32_w]
    rfl
   refine pure_ (i := 2) (N := some 19) (v := ?_) (a' := ?_) #[true, true, true, false, false, false, false, false, false, false, false, false, false] rfl rfl (any_of HT_.out kf) (fun _ _ _ h => h) (Or.inl ⟨by rfl, ?_⟩) ?_ ?_
   rotate_left
   ·intro w'
    go_simp
    with_reducible rfl
   rotate_left
   ·simp only [Act.put, sA, sB, sC, i64_w, i32_w]
    rfl
   refine pure_ (i := 3) (N := some 20) (v := ?_) (a' := ?_) #[true, true, true, true, false, false, false, false, false, false, false, false, false] rfl rfl (any_of HT_.out kf) (fun _ _ _ h => h) (Or.inl ⟨by rfl, ?_⟩) ?_ ?_
   rotate_left
   ·intro w'
    go_simp
    with_reducible rfl
   rotate_left
   ·simp only [Act.put, sA, sB, sC, i64_w, i32_w]
    rfl
   refine pure_ (i := 4) (N := some 21) (v := ?_) (a' := ?_) #[true, true, true, true, true, false, false, false, false, false, false, false, false] rfl rfl (any_of HT_.out kf) (fun _ _ _ h => h) (Or.inl ⟨by rfl, ?_⟩) ?_ ?_
   rotate_left
   ·intro w'
    go_simp
    with_reducible rfl
   rotate_left
   ·simp only [Act.put, sA, sB, sC, i64_w, i32_w]
    rfl
   refine pure_ (i := 5) (N := some 22) (v := ?_) (a' := ?_) #[true, true, true, true, true, true, false, false, false, false, false, false, false] rfl rfl (any_of HT_.out kf) (fun _ _ _ h => h) (Or.inl ⟨by rfl, ?_⟩) ?_ ?_
   rotate_left
   ·intro w'
    go_simp
    with_reducible rfl
   rotate_left
   ·simp only [Act.put, sA, sB, sC, i64_w, i32_w]
    rfl
   refine pure_ (i := 6) (N := some 23) (v := ?_) (a' := ?_) #[true, true, true, true, true, true, true, false, false, false, false, false, false] rfl rfl (any_of HT_.out kf) (fun _ _ _ h => h) (Or.inl ⟨by rfl, ?_⟩) ?_ ?_
   rotate_left
   ·intro w'
    go_simp
    with_reducible rfl
   rotate_left
   ·simp only [Act.put, sA, sB, sC, i64_w, i32_w]
    rfl
   refine pure_ (i := 7) (N := some 24) (v := undef) (a' := ?_) #[true, true, true, true, true, true, true, true, false, false, false, false, false] rfl rfl (any_of HT_.out kf) (fun _ _ _ h => h) (Or.inr ⟨by rfl, rfl⟩) ?_ ?_
   rotate_left
   ·simp only [Act.put, sA, sB, sC, i64_w, i32_w]
    rfl
   refine pure_ (i := 8) (N := some 25) (v := undef) (a' := ?_) #[true, true, true, true, true, true, true, true, true, false, false, false, false] rfl rfl (any_of HT_.out kf) (fun _ _ _ h => h) (Or.inr ⟨by rfl, rfl⟩) ?_ ?_
   rotate_left
   ·simp only [Act.put, sA, sB, sC, i64_w, i32_w]
    rfl
   refine pure_ (i := 9) (N := some 26) (v := ?_) (a' := ?_) #[true, true, true, true, true, true, true, true, true, true, false, false, false] rfl rfl (any_of HT_.out kf) (fun _ _ _ h => h) (Or.inl ⟨by rfl, ?_⟩) ?_ ?_
   rotate_left
   ·intro w'
    go_simp
    with_reducible rfl
   rotate_left
   ·simp only [Act.put, sA, sB, sC, i64_w, i32_w]
    rfl
   refine pure_ (i := 10) (N := some 2) (v := ?_) (a' := ?_) #[true, true, true, true, true, true, true, true, true, true, true, false, false] rfl rfl (any_of HT_.out kf) (fun _ _ _ h => h) (Or.inl ⟨by rfl, ?_⟩) ?_ ?_
   rotate_left
   ·intro w'
    go_simp
    with_reducible rfl
   rotate_left
   ·simp only [Act.put, sA, sB, sC, i64_w, i32_w]
    rfl
   refine pure_ (i := 11) (N := some 3) (v := ?_) (a' := ?_) #[true, true, true, true, true, true, true, true, true, true, true, true, false] rfl rfl (any_of HT_.out kf) (fun _ _ _ h => h) (Or.inl ⟨by rfl, ?_⟩) ?_ ?_
   rotate_left
   ·intro w'
    go_simp
    with_reducible rfl
   rotate_left
   ·simp only [Act.put, sA, sB, sC, i64_w, i32_w]
    rfl
   refine pure_ (i := 12) (N := some 4) (v := ?_) (a' := ?_) #[true, true, true, true, true, true, true, true, true, true, true, true, true] rfl rfl (any_of HT_.out kf) (fun _ _ _ h => h) (Or.inl ⟨by rfl, ?_⟩) ?_ ?_
   rotate_left
   ·intro w'
    go_simp
    with_reducible rfl
   rotate_left
   ·simp only [Act.put, sA, sB, sC, i64_w, i32_w]
    rfl
   refine done_ (done_of HT_.out kf) ?_
   try go_wp2
   go_ret3
   exact ⟨rf, bl⟩
 ·replace c3 := Bool.eq_false_iff.mpr c3
  subst c3
  replace H : ((strings_IndexByte.f a0 64).bind fun t175 => (if 0 ≤ (mx t175 0) then (if (mx t175 0) ≤ (a0.size : Int) then ((text_DotAtom.f k (a0.extract 0 ((mx t175 0) : Int).toNat)).bind fun t176 => (some (a0.extract 0 ((mx t175 0) : Int).toNat, a0.extract ((mx t175 0) : Int).toNat a0.size, t176))) else (none)) else (none))) = some (r1, r2, r3) := by rw [if_neg (show ¬ (false = true) by decide)] at H; exact H
  obtain ⟨t175, A120, H⟩ := Option.bind_eq_some_iff.mp H
  replace H : (if 0 ≤ (mx t175 0) then (if (mx t175 0) ≤ (a0.size : Int) then ((text_DotAtom.f k (a0.extract 0 ((mx t175 0) : Int).toNat)).bind fun t176 => (some (a0.extract 0 ((mx t175 0) : Int).toNat, a0.extract ((mx t175 0) : Int).toNat a0.size, t176))) else (none)) else (none)) = some (r1, r2, r3) := H
  have A12 := Aside0.mk A120
  clear A120
  obtain ⟨ji13, hji13⟩ : ∃ j_ : Int, (mx t175 0) = j_ := ⟨_, rfl⟩
  replace H : (if 0 ≤ (ji13) then (if (ji13) ≤ (a0.size : Int) then ((text_DotAtom.f k (a0.extract 0 ((ji13) : Int).toNat)).bind fun t176 => (some (a0.extract 0 ((ji13) : Int).toNat, a0.extract ((ji13) : Int).toNat a0.size, t176))) else (none)) else (none)) = some (r1, r2, r3) := by first | (rw [hji13] at H; exact H) | (simp only [hji13] at H ⊢; exact H)
  (try rw [hji13] at A2)
  (try rw [hji13] at A12)
  (try (have hji13l : 0 ≤ ji13 := by (rw [← hji13]; unfold mx; (repeat' split) <;> omega)))
  (try (have hji13m : 0 ≤ ji13 := by omega))
  have hji13_ : (if t175 < 0 then 0 else t175) = ji13 := hji13
  by_cases c14 : 0 ≤ (ji13)
  rotate_left
  ·rw [if_neg c14] at H
   exact ab H
  rw [if_pos c14] at H
  have c14b0 := eq_true c14
  have c14b1 : decide (0 ≤ (ji13)) = true := decide_eq_true c14
  clear c14
  by_cases c15 : (ji13) ≤ (a0.size : Int)
  rotate_left
  ·rw [if_neg c15] at H
   exact ab H
  rw [if_pos c15] at H
  have c15b0 := eq_true c15
  have c15b1 : decide ((ji13) ≤ (a0.size : Int)) = true := decide_eq_true c15
  clear c15
  have c16b0 := eq_true (od : 0 ≤ (ji13))
  have c17b0 := eq_true (od : (ji13) ≤ (a0.size : Int))
  have c18b0 := eq_true (od : 0 ≤ (ji13))
  have c19b0 := eq_true (od : (ji13) ≤ (a0.size : Int))
  obtain ⟨t176, A200, H⟩ := Option.bind_eq_some_iff.mp H
  replace H : (some (a0.extract 0 ((ji13) : Int).toNat, a0.extract ((ji13) : Int).toNat a0.size, t176)) = some (r1, r2, r3) := H
  have A20 := Aside0.mk A200
  clear A200
  simp only [Option.some.injEq, Prod.mk.injEq] at H
  obtain ⟨rfl, rfl, rfl⟩ := H
  go_enter Tryz.func65, Tryz.ntmps65
  try go_wp2_with (first | ((with_reducible refine gate_callee (f := 38) rfl ?_); refine goesL_ (some 10) rfl rfl Tryz.func38 kf rfl #[.string a0, .string (⟨#[34]⟩ : ByteArray)] rfl ml ?_; (with_reducible refine (strings_HasPrefix.calls a0 (⟨#[34]⟩ : ByteArray) false _ A2.out).mono ?_); rintro e w' ⟨rfl, ⟨nd, rfl⟩⟩; refine ⟨_, rfl, ?_⟩) | ((with_reducible refine gate_callee (f := 63) rfl ?_); refine goesL_ (some 28) rfl rfl Tryz.func63 kf rfl #[.string a0, .int .u8 64] rfl ml ?_; (with_reducible refine (strings_IndexByte.calls a0 64 t175 _ A12.out).mono ?_); rintro e w' ⟨rfl, ⟨nd, rfl⟩⟩; refine ⟨_, rfl, ?_⟩))
  rename_i nd1_ h1_ K1_ a1_
  replace HB := Aside0.mk (below_drew1 (pw_below_drewN HB.out (nd1_ + nd)))
  refine start_ (n := 13) (S := fun w' => True) (ds := []) #[false, false, false, false, false, false, false, false, false, false, false, false, false] kf rfl rfl trivial (fun hHeld => ?_); refine with_tabW addr_local.tab5 addr_local.bits5 (fun HT_ HW_ => ?_)
  generalize (w.drewN (nd1_ + nd)).drew = w21 at HB hHeld ⊢
  refine pure_ (i := 0) (N := some 30) (v := ?_) (a' := ?_) #[true, false, false, false, false, false, false, false, false, false, false, false, false] rfl rfl (any_of HT_.out kf) (fun _ _ _ h => h) (Or.inl ⟨by rfl, ?_⟩) ?_ ?_
  rotate_left
  ·intro w'
   go_simp
   with_reducible rfl
  rotate_left
  ·simp only [Act.put, sA, sB, sC, i64_w, i32_w]
   rfl
  refine pure_ (i := 1) (N := some 31) (v := ?_) (a' := ?_) #[true, true, false, false, false, false, false, false, false, false, false, false, false] rfl rfl (any_of HT_.out kf) (fun _ _ _ h => h) (Or.inl ⟨by rfl, ?_⟩) ?_ ?_
  rotate_left
  ·intro w'
   go_simp
   with_reducible rfl
  rotate_left
  ·simp only [Act.put, sA, sB, sC, i64_w, i32_w]
   rfl
  refine pure_ (i := 2) (N := some 32) (v := ?_) (a' := ?_) #[true, true, true, false, false, false, false, false, false, false, false, false, false] rfl rfl (any_of HT_.out kf) (fun _ _ _ h => h) (Or.inl ⟨by rfl, ?_⟩) ?_ ?_
  rotate_left
  ·intro w'
   go_simp
   with_reducible rfl
  rotate_left
  ·simp only [Act.put, sA, sB, sC, i64_w, i32_w]
   rfl
  refine pure_ (i := 3) (N := some 33) (v := ?_) (a' := ?_) #[true, true, true, true, false, false, false, false, false, false, false, false, false] rfl rfl (any_of HT_.out kf) (fun _ _ _ h => h) (Or.inl ⟨by rfl, ?_⟩) ?_ ?_
  rotate_left
  ·intro w'
   go_simp
   with_reducible rfl
  rotate_left
  ·simp only [Act.put, sA, sB, sC, i64_w, i32_w]
   rfl
  refine pure_ (i := 4) (N := some 34) (v := ?_) (a' := ?_) #[true, true, true, true, true, false, false, false, false, false, false, false, false] rfl rfl (any_of HT_.out kf) (fun _ _ _ h => h) (Or.inl ⟨by rfl, ?_⟩) ?_ ?_
  rotate_left
  ·intro w'
   go_simp
   with_reducible rfl
  rotate_left
  ·simp only [Act.put, sA, sB, sC, i64_w, i32_w]
   rfl
  refine pure_ (i := 5) (N := some 35) (v := ?_) (a' := ?_) #[true, true, true, true, true, true, false, false, false, false, false, false, false] rfl rfl (any_of HT_.out kf) (fun _ _ _ h => h) (Or.inl ⟨by rfl, ?_⟩) ?_ ?_
  rotate_left
  ·intro w'
   go_simp
   with_reducible rfl
  rotate_left
  ·simp only [Act.put, sA, sB, sC, i64_w, i32_w]
   rfl
  refine pure_ (i := 6) (N := some 36) (v := ?_) (a' := ?_) #[true, true, true, true, true, true, true, false, false, false, false, false, false] rfl rfl (any_of HT_.out kf) (fun _ _ _ h => h) (Or.inl ⟨by rfl, ?_⟩) ?_ ?_
  rotate_left
  ·intro w'
   go_simp
   with_reducible rfl
  rotate_left
  ·simp only [Act.put, sA, sB, sC, i64_w, i32_w]
   rfl
  refine pure_ (i := 7) (N := some 37) (v := ?_) (a' := ?_) #[true, true, true, true, true, true, true, true, false, false, false, false, false] rfl rfl (any_of HT_.out kf) (fun _ _ _ h => h) (Or.inl ⟨by rfl, ?_⟩) ?_ ?_
  rotate_left
  ·intro w'
   go_simp
   with_reducible rfl
  rotate_left
  ·simp only [Act.put, sA, sB, sC, i64_w, i32_w]
   rfl
  refine pure_ (i := 8) (N := some 38) (v := ?_) (a' := ?_) #[true, true, true, true, true, true, true, true, true, false, false, false, false] rfl rfl (any_of HT_.out kf) (fun _ _ _ h => h) (Or.inl ⟨by rfl, ?_⟩) ?_ ?_
  rotate_left
  ·intro w'
   go_simp
   with_reducible rfl
  rotate_left
  ·simp only [Act.put, sA, sB, sC, i64_w, i32_w]
   rfl
  refine one_ (i := 9) (N := some 39) #[true, true, true, true, true, true, true, true, true, true, false, false, false] rfl rfl (one_of HT_.out kf) (by decide) (fun K hK => ?_)
  refine goes_ Tryz.func52 kf rfl #[.string (a0.extract 0 ((ji13) : Int).toNat)] (by rfl) rfl rfl (by (try simp only [List.map_toArray, List.map_cons, List.map_nil]); first | done | (simp only [hji13]; rfl) | rfl | (simp only [List.length_drop, List.length_take]; rfl)) ?_
  with_reducible refine (text_DotAtom.calls k (a0.extract 0 ((ji13) : Int).toNat) t176 _ ?side1 A20.out).mono ?_
  (case side1 => exact Glob.below HG.out bl)
  rintro e w22 ⟨rfl, hb⟩
  refine ⟨_, rfl, ?_⟩
  replace HB := Aside0.mk (below_step bl hb)
  (try clear hb)
  (try clear hb2)
  (try clear hk)
  (try clear hi)
  refine hK.out _ _ trivial (fun hHeld => ?_)
  clear hK K
  refine norm_ (a' := ?_) ?_ ?_
  rotate_left
  ·show Act.put _ (some 39) _ = _
   simp only [Act.put, sA, sB, sC, i64_w, i32_w]
   rfl
  refine pure_ (i := 10) (N := some 2) (v := ?_) (a' := ?_) #[true, true, true, true, true, true, true, true, true, true, true, false, false] rfl rfl (any_of HT_.out kf) (fun _ _ _ h => h) (Or.inl ⟨by rfl, ?_⟩) ?_ ?_
  rotate_left
  ·intro w'
   go_simp
   with_reducible rfl
  rotate_left
  ·simp only [Act.put, sA, sB, sC, i64_w, i32_w]
   rfl
  refine pure_ (i := 11) (N := some 3) (v := ?_) (a' := ?_) #[true, true, true, true, true, true, true, true, true, true, true, true, false] rfl rfl (any_of HT_.out kf) (fun _ _ _ h => h) (Or.inl ⟨by rfl, ?_⟩) ?_ ?_
  rotate_left
  ·intro w'
   go_simp
   with_reducible rfl
  rotate_left
  ·simp only [Act.put, sA, sB, sC, i64_w, i32_w]
   rfl
  refine pure_ (i := 12) (N := some 4) (v := ?_) (a' := ?_) #[true, true, true, true, true, true, true, true, true, true, true, true, true] rfl rfl (any_of HT_.out kf) (fun _ _ _ h => h) (Or.inl ⟨by rfl, ?_⟩) ?_ ?_
  rotate_left
  ·intro w'
   go_simp
   with_reducible rfl
  rotate_left
  ·simp only [Act.put, sA, sB, sC, i64_w, i32_w]
   rfl
  refine done_ (done_of HT_.out kf) ?_
  try go_wp2
  go_ret3
  exact ⟨by first | rfl | (simp [bneNil]; done) | (simp [errW_none, errW_some] <;> rfl) | (simp only [← hji13]; first | rfl | (simp [errW_none, errW_some] <;> rfl)) | (simp [*, errW_none, errW_some] <;> rfl), bl⟩

end Go.Proofs.YtgelfnjicglmbaaGreatDoor.Q
end
