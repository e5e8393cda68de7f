/- Walks of functions. -/
import Derived.Test.YtdciiahlakgikaaDoorQx0
import Derived.Test.YtdciiahlakgikaaDoorQx9
import Derived.Test.YtdciiahlakgikaaDoorQx7
section
namespace Go.Proofs.YtdciiahlakgikaaDoor.Q
open Go.RowKit Go.Proofs.YtdciiahlakgikaaDoorW.PrintWords Go.Proofs.YtdciiahlakgikaaDoorW.PrintLast Go.Proofs.YtdciiahlakgikaaDoorW.PrintMore
attribute [local go_sem] max2_int min2_int max_two min_two max_three min_three max_four min_four   -- for this text's walks alone
set_option linter.unusedVariables false
set_option linter.unusedSimpArgs false

/-! ### slices_Equal_string_string: function 27 -/
def slices_Equal_string_string.l0 : Nat → List ByteArray → List ByteArray → Int → Int → Option (Bool)
  | 0, _, _, _, _ => none
  | k + 1, x0, x1, x12, x13 => if x13 < x12 then (if 0 ≤ x13 then (if x13 < (x0.length : Int) then (if x13 < (x1.length : Int) then (if (rdOf ByteArray.empty x0 x13).toList = (rdOf ByteArray.empty x1 x13).toList then (slices_Equal_string_string.l0 k x0 x1 x12 (wrap64 (x13 + 1))) else (some false)) else (none)) else (none)) else (none)) else (some true)
def slices_Equal_string_string.f (k : Nat) (l0 : List ByteArray) (l1 : List ByteArray) : Option (Bool) := if (l0.length : Int) = (l1.length : Int) then (slices_Equal_string_string.l0 k l0 l1 (l0.length : Int) 0) else (some false)
theorem slices_Equal_string_string.mono_l : ∀ k, (∀ y0 y1 y2 y3, LeO (slices_Equal_string_string.l0 k y0 y1 y2 y3) (slices_Equal_string_string.l0 (k + 1) y0 y1 y2 y3))
  | 0 => fun _ _ _ _ r h => by simp [slices_Equal_string_string.l0] at h
  | k + 1 => by
    have ih0 := slices_Equal_string_string.mono_l k
    · intro y0 y1 y2 y3
      unfold slices_Equal_string_string.l0
      repeat' first
      | (with_reducible exact ih0 _ _ _ _)
      | (with_reducible exact LeO.refl _)
      | (with_reducible exact LeO.none _)
      | (with_reducible refine LeO.ite ?_ ?_)
      | (with_reducible refine LeO.bind ?_ (fun _ => ?_))
      | exact ih0 _ _ _ _
      | exact LeO.none _
      | refine LeO.ite ?_ ?_
      | refine LeO.bind ?_ (fun _ => ?_)
theorem slices_Equal_string_string.mono : ∀ a0 a1 k, LeO (slices_Equal_string_string.f k a0 a1) (slices_Equal_string_string.f (k + 1) a0 a1) := by
  intro a0 a1 k
  have ih0 := slices_Equal_string_string.mono_l k
  unfold slices_Equal_string_string.f
  repeat' first
      | (with_reducible exact ih0 _ _ _ _)
      | (with_reducible exact LeO.refl _)
      | (with_reducible exact LeO.none _)
      | (with_reducible refine LeO.ite ?_ ?_)
      | (with_reducible refine LeO.bind ?_ (fun _ => ?_))
      | exact ih0 _ _ _ _
      | exact LeO.none _
      | refine LeO.ite ?_ ?_
      | refine LeO.bind ?_ (fun _ => ?_)
set_option maxHeartbeats 8000000 in
set_option maxRecDepth 100000 in
theorem slices_Equal_string_string.calls (k : Nat) (A0 : Option Addr) (c0 : Nat) (l0 : List ByteArray) (A1 : Option Addr) (c1 : Nat) (l1 : List ByteArray) (r : Bool) (w : World) (hr0 : Kd.C Kd.string w A0 l0.length l0) (hc0 : l0.length ≤ c0) (hr1 : Kd.C Kd.string w A1 l1.length l1) (hc1 : l1.length ≤ c1) (h : slices_Equal_string_string.f k l0 l1 = some r) :
    Calls Tryd.prog 27 #[.slice A0 l0.length c0, .slice A1 l1.length c1] w fun e w' => e = .returned (.bool r) ∧ Drawn0 w w' := by
  have HR0 := Aside0.mk hr0
  have HC0 := Aside0.mk hc0
  clear hr0 hc0
  have HR1 := Aside0.mk hr1
  have HC1 := Aside0.mk hc1
  clear hr1 hc1
  have H : (if (l0.length : Int) = (l1.length : Int) then (slices_Equal_string_string.l0 k l0 l1 (l0.length : Int) 0) else (some false)) = some r := h
  clear h
  by_cases c3 : (l0.length : Int) = (l1.length : Int)
  · rw [if_pos c3] at H
    have c3b0 : ((l0.length : Int) == (l1.length : Int)) = true := beq_iff_eq.mpr c3
    have c3b1 : ((l0.length : Int) != (l1.length : Int)) = false := bne_eq_false_iff_eq.mpr c3
    have c3b2 : (l0.length == l1.length) = true := by first | simpa using c3 | (simp at c3 ⊢; omega)
    clear c3
    have H' := Aside0.mk H
    clear H
    go_enter Tryd.func27, Tryd.ntmps27
    go_wp2
    repeat (go_quiet (fail); try go_wp2)
    go_loopg [13] k (fun kq v13 w' => ∃ (x13_1 : Int), v13 = .int .i64 x13_1 ∧ Aside0 (slices_Equal_string_string.l0 kq l0 l1 (l0.length : Int) x13_1 = some r) ∧ Aside0 (kq ≤ k) ∧ Drawn0 w w')
    case atStart => exact ⟨(0), (by first | rfl | (simp; done) | (simp [*]; done)), H', ⟨Nat.le_refl _⟩, by repeat (first | exact Drawn0.refl _ | apply Drawn0.step)⟩
    case round =>
      clear H'
      try clear c1
      try clear c2
      try clear p2
      try clear c3
      try clear c3b0
      try clear c3b1
      try clear c3b2
      obtain ⟨x13_1, rfl, HA, HK1, ⟨m1, rfl⟩⟩ := hrel
      cases gk with
      | zero => exact absurd HA.out (by simp [slices_Equal_string_string.l0])
      | succ k1 =>
        have H := HA.out
        clear HA
        simp only [slices_Equal_string_string.l0] at H
        by_cases c4 : x13_1 < (l0.length : Int)
        · rw [if_pos c4] at H
          have c4b0 : decide (x13_1 < (l0.length : Int)) = true := decide_eq_true c4
          clear c4
          by_cases c5 : 0 ≤ x13_1
          · rw [if_pos c5] at H
            have c5b0 : decide (0 ≤ x13_1) = true := decide_eq_true c5
            clear c5
            by_cases c6 : x13_1 < (l0.length : Int)
            · rw [if_pos c6] at H
              have c6b0 : decide (x13_1 < (l0.length : Int)) = true := decide_eq_true c6
              clear c6
              by_cases c7 : x13_1 < (l1.length : Int)
              · rw [if_pos c7] at H
                have c7b0 : decide (x13_1 < (l1.length : Int)) = true := decide_eq_true c7
                clear c7
                by_cases c8 : (rdOf ByteArray.empty l0 x13_1).toList = (rdOf ByteArray.empty l1 x13_1).toList
                · rw [if_pos c8] at H
                  have c8b0 : ((rdOf ByteArray.empty l0 x13_1).toList == (rdOf ByteArray.empty l1 x13_1).toList) = true := beq_iff_eq.mpr c8
                  have c8b1 : ((rdOf ByteArray.empty l0 x13_1).toList != (rdOf ByteArray.empty l1 x13_1).toList) = false := bne_eq_false_iff_eq.mpr c8
                  clear c8
                  have H' := Aside0.mk H
                  clear H
                  have p297 : 0 ≤ (x13_1 : Int) := of_decide_eq_true (by first | (with_reducible assumption) | assumption)
                  have q297 : x13_1 < (l0.length : Int) := of_decide_eq_true (by first | (with_reducible assumption) | assumption)
                  obtain ⟨ad297, e297, hx297_0⟩ := Kd.at_string HR0.out x13_1 p297 q297
                  cases e297
                  replace p297 := eq_true p297
                  replace q297 := eq_true q297
                  have p298 : 0 ≤ (x13_1 : Int) := of_decide_eq_true (by first | (with_reducible assumption) | assumption)
                  have q298 : x13_1 < (l1.length : Int) := of_decide_eq_true (by first | (with_reducible assumption) | assumption)
                  obtain ⟨ad298, e298, hx298_0⟩ := Kd.at_string HR1.out x13_1 p298 q298
                  cases e298
                  replace p298 := eq_true p298
                  replace q298 := eq_true q298
                  go_wp2
                  repeat (go_quiet (fail); try go_wp2)
                  go_roundg k1
                  case measure => have := HK1.out; omega
                  case rel => exact ⟨(wrap64 (x13_1 + 1)), (by first | rfl | (simp; done) | (simp [*]; done)), H', ⟨by have := HK1.out; omega⟩, by repeat (first | exact Drawn0.refl _ | apply Drawn0.step)⟩
                · rw [if_neg c8] at H
                  have c8b0 : ((rdOf ByteArray.empty l0 x13_1).toList == (rdOf ByteArray.empty l1 x13_1).toList) = false := beq_eq_false_iff_ne.mpr c8
                  have c8b1 : ((rdOf ByteArray.empty l0 x13_1).toList != (rdOf ByteArray.empty l1 x13_1).toList) = true := bne_iff_ne.mpr c8
                  obtain rfl := Option.some.inj H
                  have p297 : 0 ≤ (x13_1 : Int) := of_decide_eq_true (by first | (with_reducible assumption) | assumption)
                  have q297 : x13_1 < (l0.length : Int) := of_decide_eq_true (by first | (with_reducible assumption) | assumption)
                  obtain ⟨ad297, e297, hx297_0⟩ := Kd.at_string HR0.out x13_1 p297 q297
                  cases e297
                  replace p297 := eq_true p297
                  replace q297 := eq_true q297
                  have p298 : 0 ≤ (x13_1 : Int) := of_decide_eq_true (by first | (with_reducible assumption) | assumption)
                  have q298 : x13_1 < (l1.length : Int) := of_decide_eq_true (by first | (with_reducible assumption) | assumption)
                  obtain ⟨ad298, e298, hx298_0⟩ := Kd.at_string HR1.out x13_1 p298 q298
                  cases e298
                  replace p298 := eq_true p298
                  replace q298 := eq_true q298
                  go_wp2
                  repeat (go_quiet (fail); try go_wp2)
                  go_ret
                  exact ⟨by first | rfl | (simp [bneNil]; done) | (simp; done) | (simp [*]; done), by repeat (first | exact Drawn0.refl _ | apply Drawn0.step)⟩
              · rw [if_neg c7] at H
                exact absurd H (by simp)
            · rw [if_neg c6] at H
              exact absurd H (by simp)
          · rw [if_neg c5] at H
            exact absurd H (by simp)
        · rw [if_neg c4] at H
          have c4b0 : decide (x13_1 < (l0.length : Int)) = false := decide_eq_false c4
          clear c4
          obtain rfl := Option.some.inj H
          go_wp2
          repeat (go_quiet (fail); try go_wp2)
          go_ret
          exact ⟨by first | rfl | (simp [bneNil]; done) | (simp; done) | (simp [*]; done), by repeat (first | exact Drawn0.refl _ | apply Drawn0.step)⟩
  · rw [if_neg c3] at H
    have c3b0 : ((l0.length : Int) == (l1.length : Int)) = false := beq_eq_false_iff_ne.mpr c3
    have c3b1 : ((l0.length : Int) != (l1.length : Int)) = true := bne_iff_ne.mpr c3
    have c3b2 : (l0.length == l1.length) = false := by first | simpa using c3 | (simp at c3 ⊢; omega)
    obtain rfl := Option.some.inj H
    go_enter Tryd.func27, Tryd.ntmps27
    go_wp2
    repeat (go_quiet (fail); try go_wp2)
    go_ret
    exact ⟨by first | rfl | (simp [bneNil]; done) | (simp; done) | (simp [*]; done), by repeat (first | exact Drawn0.refl _ | apply Drawn0.step)⟩

/-! ### text_Lower: function 113 (by hand) -/
def lowC (c : UInt8) : UInt8 := if 65 ≤ c.toNat ∧ c.toNat ≤ 90 then c + 32 else c
def lowerB (s : ByteArray) : ByteArray := ⟨(s.data.toList.map lowC).toArray⟩
def text_Lower.f (a0 : ByteArray) : Option ByteArray := if a0.size < 70368744177000 then some (lowerB a0) else none
def lowT (s : ByteArray) (k : Nat) : List UInt8 := (s.data.toList.take k).map lowC ++ s.data.toList.drop k
/-- The row behind k rounds. -/
def LowRow (s : ByteArray) (k : Nat) (cs : Array Value) : Prop := ∀ j, j < s.size → cs[j]? = some (.int .u8 (((lowT s k).getD j 0).toNat : Nat))
theorem s_len (s : ByteArray) : s.data.toList.length = s.size := by rw [Array.length_toList]; rfl
theorem lowT_at (s : ByteArray) (k j : Nat) (hk : k ≤ s.size) (hj : j < s.size) : (lowT s k).getD j 0 = if j < k then lowC (s[j]'hj) else s[j]'hj := by
  have hl := s_len s
  unfold lowT
  rw [List.getD_eq_getElem?_getD]
  by_cases h : j < k
  · rw [if_pos h, List.getElem?_append_left (by simp; omega)]
    rw [List.getElem?_map, List.getElem?_take_of_lt h, List.getElem?_eq_getElem (by omega)]
    simp
    rfl
  · rw [if_neg h, List.getElem?_append_right (by simp; omega)]
    simp only [List.length_map, List.length_take, List.getElem?_drop]
    rw [show k + (j - min k s.data.toList.length) = j by omega, List.getElem?_eq_getElem (by omega)]
    simp
    rfl
theorem lowT_end (s : ByteArray) : lowT s s.size = s.data.toList.map lowC := by
  unfold lowT
  rw [List.take_of_length_le (by rw [s_len]; omega), List.drop_of_length_le (by rw [s_len]; omega), List.append_nil]
theorem LowRow.start {W w1 : World} {g e : Nat} {s : ByteArray} : LowRow s 0 (Lib.bytesCells w1 e s) := by
  intro j hj
  rw [lowT_at s 0 j (by omega) hj, if_neg (by omega)]
  simp [Lib.bytesCells, Array.getElem?_append, hj]
  rfl
theorem LowRow.same {s : ByteArray} {k : Nat} {cs : Array Value} (h : LowRow s k cs) (hk : k < s.size) (hc : lowC (s[k]'hk) = s[k]'hk) : LowRow s (k + 1) cs := by
  intro j hj
  rw [h j hj, lowT_at s k j (by omega) hj, lowT_at s (k + 1) j (by omega) hj]
  by_cases e : j = k
  · subst e; rw [if_neg (by omega), if_pos (by omega), hc]
  · by_cases l : j < k
    · rw [if_pos l, if_pos (by omega)]
    · rw [if_neg l, if_neg (by omega)]
theorem LowRow.put {s : ByteArray} {k : Nat} {cs : Array Value} (h : LowRow s k cs) (hk : k < s.size) (v : Nat) (hv : v = (lowC (s[k]'hk)).toNat) : LowRow s (k + 1) (cs.setIfInBounds k (.int .u8 (v : Nat))) := by
  intro j hj
  rw [Array.getElem?_setIfInBounds]
  have hsz : k < cs.size := (Array.getElem?_eq_some_iff.1 (h k hk)).1
  by_cases e : k = j
  · subst e
    rw [if_pos rfl, if_pos hsz, lowT_at s (k + 1) k (by omega) hj, if_pos (by omega), hv]
  · rw [if_neg e, h j hj, lowT_at s k j (by omega) hj, lowT_at s (k + 1) j (by omega) hj]
    by_cases l : j < k
    · rw [if_pos l, if_pos (by omega)]
    · rw [if_neg l, if_neg (by omega)]
theorem low_str (s : ByteArray) : strOfNums ((lowT s s.size).map fun c => (c.toNat : Int)) = lowerB s := by
  rw [lowT_end]
  unfold strOfNums lowerB
  simp [List.map_map, Function.comp_def]
theorem blk_setF {w : World} {g : Nat} {t : TypeId} {cs : Array Value} {fz : Nat × Nat} (h : w.heap[g]? = some (.cells cs t fz)) (i : Nat) (u : Value) : (w.setCell ⟨g, i, none⟩ u).heap[g]? = some (.cells (cs.setIfInBounds i u) t fz) := by
  simp [World.setCell, Array.getElem?_modify, h]
set_option maxHeartbeats 1000000 in
set_option maxRecDepth 100000 in
theorem text_Lower.calls (a0 : ByteArray) (r : ByteArray) (w : World) (h : text_Lower.f a0 = some r) :
    Calls Tryd.prog 113 #[.string a0] w fun e w' => e = .returned (.string r) ∧ Below w.heap.size w w' := by
  unfold text_Lower.f at h
  by_cases hsz : a0.size < 70368744177000
  · rw [if_pos hsz] at h
    obtain rfl := Option.some.inj h
    clear h
    have hcv := fun W => print_bytes (P := Tryd.prog) 9 39 5 Tryd.underlying9 Tryd.underlying39 Tryd.underlying5 a0 W
    go_enter Tryd.func113, Tryd.ntmps113
    go_wp2
    clear hcv
    have HG := Lib.hid (Lib.bytesWorld_at_new w 5 a0)
    have HB := Lib.hid (bytes_below (Below.refl w.heap.size w) (Nat.le_refl _) 5 a0)
    have HL := Lib.hid (LowRow.start (W := w) (w1 := w) (g := 0) (e := 5) (s := a0))
    have HC := Lib.hid (show a0.size ≤ (Lib.bytesCells w 5 a0).size by simp [Lib.bytesCells])
    obtain ⟨w3, hw3⟩ : ∃ w3, w3 = Lib.bytesWorld w 5 a0 := ⟨_, rfl⟩
    rw [← hw3] at HG HB ⊢
    clear hw3
    generalize Lib.bytesCells w 5 a0 = C at HG HL HC
    generalize grownCap w a0.size 0 5 = cap
    obtain ⟨g, hg⟩ : ∃ g, g = w.heap.size := ⟨_, rfl⟩
    have Hg := Lib.hid hg
    rw [← hg] at HG ⊢
    clear hg
    go_loopw [10] (fun v10 w' => ∃ (k : Nat) (cs : Array Value), v10 = .int .i64 k ∧ k ≤ a0.size ∧ Aside0 (w'.heap[g]? = some (.cells cs 5 (C.size, C.size + 1))) ∧ Aside0 (LowRow a0 k cs) ∧ Aside0 (Below w.heap.size w w')) (fun v10 _ => a0.size - (intOf v10).toNat)
    case atStart => exact ⟨0, C, rfl, Nat.zero_le _, ⟨HG.out⟩, ⟨HL.out⟩, ⟨HB.out⟩⟩
    case round =>
      clear HG HL HB
      obtain ⟨k, cs, rfl, hk, HG, HL, HB⟩ := hrel
      by_cases hlt : k < a0.size
      · have hcell : wr.cell? ⟨g, k, none⟩ = some (.int .u8 ((a0[k]'hlt).toNat : Nat)) := by
          rw [World.cell?]
          simp only [HG.out]
          have := HL.out k hlt
          rw [lowT_at a0 k k (by omega) hlt, if_neg (by omega)] at this
          simpa using this
        have hfz : wr.frozen? ⟨g, k, none⟩ = false := by
          have := HC.out
          simp only [World.frozen?, HG.out]
          simp
          omega
        have HP := Lib.hid (HL.out.put hlt)
        have HE := Lib.hid (HL.out.same hlt)
        have hc256 : (a0[k]'hlt).toNat < 256 := UInt8.toNat_lt _
        have Hlow : Hid ((lowC (a0[k]'hlt)).toNat = if 65 ≤ (a0[k]'hlt).toNat ∧ (a0[k]'hlt).toNat ≤ 90 then (a0[k]'hlt).toNat + 32 else (a0[k]'hlt).toNat) := Lib.hid (by
          unfold lowC
          split
          · rw [UInt8.toNat_add]; simp; omega
          · rfl)
        obtain ⟨d, hd⟩ : ∃ d, d = a0[k]'hlt := ⟨_, rfl⟩
        rw [← hd] at HP HE Hlow hcell hc256
        obtain ⟨c, hc⟩ : ∃ c : Nat, c = d.toNat := ⟨_, rfl⟩
        rw [← hc] at Hlow hcell hc256
        have Hc := Lib.hid hc
        clear hc hd
        by_cases h1 : 65 ≤ c
        · have b1 : decide (65 ≤ (c : Int)) = true := decide_eq_true (by omega)
          by_cases h2 : c ≤ 90
          · have b2 : decide ((c : Int) ≤ 90) = true := decide_eq_true (by omega)
            go_wp2
            go_roundw
            case rel => exact ⟨k + 1, _, by go_num, hlt, ⟨blk_setF HG.out k _⟩, ⟨by
              have hv := HP.out (c + 32) (by rw [Hlow.out, if_pos ⟨h1, h2⟩])
              have e : ((c : Int) + 97 - 65) = ((c + 32 : Nat) : Int) := by omega
              first | (rw [e]; exact hv) | exact hv⟩, ⟨below_set HB.out (by have := Hg.out; omega)⟩⟩
            case measure => simp [intOf]; omega
          · have b2 : decide ((c : Int) ≤ 90) = false := decide_eq_false (by omega)
            go_wp2
            go_roundw
            case rel => exact ⟨k + 1, cs, by go_num, hlt, HG, ⟨HE.out (UInt8.toNat_inj.mp (by rw [Hlow.out, if_neg (by omega), Hc.out]))⟩, HB⟩
            case measure => simp [intOf]; omega
        · have b1 : decide (65 ≤ (c : Int)) = false := decide_eq_false (by omega)
          go_wp2
          go_roundw
          case rel => exact ⟨k + 1, cs, by go_num, hlt, HG, ⟨HE.out (UInt8.toNat_inj.mp (by rw [Hlow.out, if_neg (by omega), Hc.out]))⟩, HB⟩
          case measure => simp [intOf]; omega
      · have hk' : k = a0.size := by omega
        subst hk'
        have hcs := run_convert_bytes_arg (P := Tryd.prog) wr 39 5 Tryd.underlying39 Tryd.underlying5 g 0 a0.size cap ((lowT a0 a0.size).map fun c => (c.toNat : Int)) (by rw [List.length_map, lowT_end, List.length_map, s_len]) (fun i hi => by
          rw [Nat.zero_add, World.cell?]
          simp only [HG.out]
          have := HL.out i hi
          rw [lowT_end] at this ⊢
          have hl : i < a0.data.toList.length := by rw [s_len]; exact hi
          simp only [List.getD_eq_getElem?_getD, List.getElem?_map, List.getElem?_eq_getElem hl, Option.map_some, Option.getD_some] at this ⊢
          exact this) 9 Tryd.underlying9
        rw [low_str] at hcs
        go_wp2
        go_ret
        exact ⟨rfl, HB.out⟩
  · rw [if_neg hsz] at h; cases h


/-! ### text_Same: function 94 -/
def text_Same.f (a0 : ByteArray) (a1 : ByteArray) : Option (Bool) := (text_Lower.f a0).bind fun t299 => ((text_Lower.f a1).bind fun t300 => (some (t299.toList == t300.toList)))
set_option maxHeartbeats 8000000 in
set_option maxRecDepth 100000 in
theorem text_Same.calls (a0 : ByteArray) (a1 : ByteArray) (r : Bool) (w : World) (h : text_Same.f a0 a1 = some r) :
    Calls Tryd.prog 94 #[.string a0, .string a1] w fun e w' => e = .returned (.bool r) ∧ Below w.heap.size w w' := by
  have HB := Aside0.mk (Below.refl w.heap.size w)
  have H : ((text_Lower.f a0).bind fun t299 => ((text_Lower.f a1).bind fun t300 => (some (t299.toList == t300.toList)))) = some r := h
  clear h
  replace H := Option.bind_eq_some_iff.mp H
  obtain ⟨t299, A30, H⟩ := H
  replace H : ((text_Lower.f a1).bind fun t300 => (some (t299.toList == t300.toList))) = some r := H
  have A3 := Aside0.mk A30
  clear A30
  replace H := Option.bind_eq_some_iff.mp H
  obtain ⟨t300, A40, H⟩ := H
  replace H : (some (t299.toList == t300.toList)) = some r := H
  have A4 := Aside0.mk A40
  clear A40
  obtain rfl := Option.some.inj H
  go_enter Tryd.func94, Tryd.ntmps94
  go_wp2_with (first | ((with_reducible refine gate_callee (f := 113) rfl ?_); refine goesL_ (some 6) rfl rfl Tryd.func113 (by kernel_rfl) rfl #[.string a0] rfl (by (try simp only [List.map_toArray, List.map_cons, List.map_nil]); first | done | rfl | (simp only [List.length_drop, List.length_take]; rfl)) ?_; (with_reducible refine (text_Lower.calls a0 t299 _ A3.out).mono ?_); rintro e w5 ⟨rfl, hb⟩; refine ⟨_, rfl, ?_⟩; have n0_ := Aside0.mk (below_step (by repeat (first | (with_reducible first | exact HB.out | apply below_alloc | apply pw_below_drewN | apply below_drew1) | exact HB.out)) hb); clear HB; have HB := n0_; clear n0_; (try clear hb); (try clear hb2); (try clear hk); (try clear hi)) | ((with_reducible refine gate_callee (f := 113) rfl ?_); refine goesL_ (some 8) rfl rfl Tryd.func113 (by kernel_rfl) rfl #[.string a1] rfl (by (try simp only [List.map_toArray, List.map_cons, List.map_nil]); first | done | rfl | (simp only [List.length_drop, List.length_take]; rfl)) ?_; (with_reducible refine (text_Lower.calls a1 t300 _ A4.out).mono ?_); rintro e w6 ⟨rfl, hb⟩; refine ⟨_, rfl, ?_⟩; have n0_ := Aside0.mk (below_step (by repeat (first | (with_reducible first | exact HB.out | apply below_alloc | apply pw_below_drewN | apply below_drew1) | exact HB.out)) hb); clear HB; have HB := n0_; clear n0_; (try clear hb); (try clear hb2); (try clear hk); (try clear hi)))
  go_ret
  exact ⟨by first | rfl | (simp [bneNil]; done) | (simp [errW_none, errW_some] <;> rfl) | (simp [*, errW_none, errW_some] <;> rfl), by repeat (first | (with_reducible first | exact HB.out | apply below_alloc | apply pw_below_drewN | apply below_drew1) | exact HB.out)⟩

/-! ### head_Message_Find: function 28 (by hand) -/
def headSel (l0 : List S41) (nm : ByteArray) : List ByteArray := (l0.filter fun x => decide (lowerB x.f0 = lowerB nm)).map (·.f1)
def headSelOk (l0 : List S41) (nm : ByteArray) : Prop := (∀ x ∈ l0, x.f0.size < 70368744177000) ∧ nm.size < 70368744177000 ∧ l0.length ≤ 1000000000000
instance (l0 : List S41) (nm : ByteArray) : Decidable (headSelOk l0 nm) := by unfold headSelOk; infer_instance
section
open Go.Shelf
attribute [local go_sem] Oper.semAt_some

theorem sel_succ_yes (l0 : List S41) (nm : ByteArray) (k : Nat) {x : Int} (hx : x = (k : Nat)) (h : k < l0.length) (e : lowerB (rd_T41 l0 x).f0 = lowerB nm) : headSel (l0.take (k + 1)) nm = headSel (l0.take k) nm ++ [(rd_T41 l0 x).f1] := by
  have hr : rd_T41 l0 x = l0[k] := by
    subst hx
    unfold rd_T41; rw [Int.toNat_natCast, List.getD_eq_getElem?_getD, List.getElem?_eq_getElem h]; rfl
  rw [hr] at e ⊢
  unfold headSel
  rw [List.take_succ_eq_append_getElem h, List.filter_append, List.map_append]
  simp [List.filter_cons, e]
theorem sel_succ_no (l0 : List S41) (nm : ByteArray) (k : Nat) {x : Int} (hx : x = (k : Nat)) (h : k < l0.length) (e : lowerB (rd_T41 l0 x).f0 ≠ lowerB nm) : headSel (l0.take (k + 1)) nm = headSel (l0.take k) nm := by
  have hr : rd_T41 l0 x = l0[k] := by
    subst hx
    unfold rd_T41; rw [Int.toNat_natCast, List.getD_eq_getElem?_getD, List.getElem?_eq_getElem h]; rfl
  rw [hr] at e
  unfold headSel
  rw [List.take_succ_eq_append_getElem h, List.filter_append, List.map_append]
  simp [List.filter_cons, e]
theorem sel_pre (l0 : List S41) (nm : ByteArray) (k : Nat) : headSel (l0.take k) nm <+: headSel l0 nm := by
  unfold headSel
  exact ((List.take_prefix k l0).filter _).map _
theorem same_some (a b : ByteArray) (ha : a.size < 70368744177000) (hb : b.size < 70368744177000) : text_Same.f a b = some (decide (lowerB a = lowerB b)) := by
  unfold text_Same.f text_Lower.f
  rw [if_pos ha, if_pos hb]
  simp only [Option.bind_some]
  congr 1
  rw [Bool.eq_iff_iff, beq_iff_eq, decide_eq_true_iff]
  constructor
  · intro h
    unfold lowerB at h ⊢
    rw [ByteArray.toList_eq, ByteArray.toList_eq] at h
    simpa using h
  · intro h; rw [h]
/-- What the iterator reads: boxes in the world in which it was made; the fields' row, below the world ws. -/
structure ValAt (ws w0 : World) (Bm Bn : Nat) (A0 : Option Addr) (c0 : Nat) (l0 : List S41) (a1 : ByteArray) (a2 : Bool) (nm : ByteArray) : Prop where
  m : w0.heap[Bm]? = some (.cells #[.slice A0 l0.length c0, .string a1, .bool a2] 24 (0, 0))
  n : w0.heap[Bn]? = some (.cells #[.string nm] 9 (0, 0))
  r : Kd.C k41 ws A0 l0.length l0
  c : l0.length ≤ c0
  b : Below ws.heap.size ws w0
theorem ValAt.below {ws w0 w1 : World} {Bm Bn c0 : Nat} {A0 : Option Addr} {l0 : List S41} {a1 nm : ByteArray} {a2 : Bool} (h : ValAt ws w0 Bm Bn A0 c0 l0 a1 a2 nm) (hb : Below w0.heap.size w0 w1) : ValAt ws w1 Bm Bn A0 c0 l0 a1 a2 nm :=
  ⟨blk_below h.m hb, blk_below h.n hb, h.r, h.c, h.b.trans (hb.mono h.b.size)⟩
/-- What a round leaves as it is. -/
def KeepV (n₀ Bn : Nat) (W W' : World) : Prop := Below n₀ W W' ∧ W'.heap[Bn]? = W.heap[Bn]?
theorem KeepV.t {n₀ Bn : Nat} {A B C : World} (h : KeepV n₀ Bn A B) (k : KeepV n₀ Bn B C) : KeepV n₀ Bn A C := ⟨h.1.trans k.1, k.2.trans h.2⟩
theorem KeepV.b {n₀ Bn : Nat} {w : World} (hn : n₀ ≤ w.heap.size) (hB : Bn < w.heap.size) (W : World) (l : Nat) (o o' : Obj) (hl : w.heap.size ≤ l) (h : W.heap[l]? = some o) (h1 : o.isCells = false) (h2 : o.isWalk = false) : KeepV n₀ Bn W (W.putObj l o') :=
  ⟨belowK_b hn W l o o' hl h h1 h2, World.putObj_heap_other (by omega)⟩

set_option maxRecDepth 100000 in
set_option maxHeartbeats 2000000 in
theorem vals_in (n : Nat) (hn : 1 ≤ n) (l Bm Bn : Nat) (A0 : Option Addr) (c0 : Nat) (l0 : List S41) (a1 : ByteArray) (a2 : Bool) (nm : ByteArray) (hok : headSelOk l0 nm) (J Jx : List ByteArray → World → Prop) (ws W : World)
    (hJ : AbidesFrom W.heap.size J)
    (hY : ∀ pre x W, J pre W → pre.length < (headSel l0 nm).length → YieldAt Fence.wide (n - 1) Tryd.prog l #[.string x] W fun e W' =>
      (e = .returned (.bool true) ∧ J (pre ++ [x]) W' ∧ KeepV ws.heap.size Bn W W') ∨ (e = .returned (.bool false) ∧ Jx (pre ++ [x]) W'))
    (hv0 : ValAt ws W Bm Bn A0 c0 l0 a1 a2 nm) (h0 : J [] W) :
    CallsIn Fence.wide n Tryd.prog 93 #[.func (.yield l) #[] #[], .pointer (some ⟨Bm, 0, none⟩), .pointer (some ⟨Bn, 0, none⟩)] W fun e W' => (∃ v, e = .returned v) ∧
      ((∃ ys, ys = headSel l0 nm ∧ J ys W') ∨ (∃ pre, pre <+: headSel l0 nm ∧ Jx pre W')) := by
  have HV := Aside0.mk hv0
  have HB := Aside0.mk hv0.b
  have HN := Aside0.mk hv0.n
  have HJ := Aside0.mk hJ
  have HY := Aside0.mk hY
  have H0 := Aside0.mk h0
  have HK := Aside0.mk hok
  have hl9 : l0.length ≤ 1000000000000 := hok.2.2
  clear hv0 hJ hY h0 hok
  have hq1 := (blk_cell HV.out.m 0).trans rfl
  refine callsIn_of_wp Tryd.func93 rfl trivial ?_ rfl
  simp only [Tryd.ntmps93, List.size_toArray, List.length_cons, List.length_nil, Nat.reduceAdd, Nat.reduceSub, Array.replicate_succ, Array.replicate_zero, List.push_toArray, List.append_toArray, List.nil_append, List.cons_append]
  gi_wp2
  gi_loopw [9] (fun v9 w' => ∃ (x : Int) (k : Nat), v9 = .int .i64 x ∧ Aside0 (x = (k : Nat)) ∧ 0 ≤ x ∧ x ≤ l0.length ∧ Aside0 (J (headSel (l0.take k) nm) w') ∧ Aside0 (Below ws.heap.size ws w') ∧ Aside0 (w'.heap[Bn]? = some (.cells #[.string nm] 9 (0, 0)))) (fun v9 _ => l0.length - (intOf v9).toNat)
  case atStart => exact ⟨0, 0, rfl, ⟨rfl⟩, Int.le_refl _, by omega, ⟨by simpa [headSel] using H0.out⟩, HB, HN⟩
  case round =>
    clear H0 HB HN
    obtain ⟨x, k, rfl, Hx, hx0, hx1, HI, HB, HN⟩ := hrel
    by_cases hlt : x < l0.length
    · have hk : k < l0.length := by have := Hx.out; omega
      obtain ⟨ad, e, g0, g1, g2⟩ := at_T41 (Kd.C_below HV.out.r HB.out) x hx0 hlt
      cases e
      have hn0 : wr.cell? ⟨Bn, 0, none⟩ = some (.string nm) := (blk_cell HN.out 0).trans rfl
      have hn1 : ∀ o, (wr.alloc o).cell? ⟨Bn, 0, none⟩ = some (.string nm) := fun o => (World.cell?_alloc_lt wr o _ (blk_lt HN.out)).trans hn0
      have hd : decide (x < (l0.length : Int)) = true := decide_eq_true hlt
      obtain ⟨bb, hbb⟩ : ∃ bb, bb = decide (lowerB (rd_T41 l0 x).f0 = lowerB nm) := ⟨_, rfl⟩
      have HS := Aside0.mk (same_some (rd_T41 l0 x).f0 nm (HK.out.1 _ (by rw [rd_T41, List.getD_eq_getElem?_getD, List.getElem?_eq_getElem (by have := Hx.out; omega)]; exact List.getElem_mem _)) HK.out.2.1)
      rw [← hbb] at HS
      have Hbb := Aside0.mk hbb
      have HL : Aside0 (bb = true → (headSel (l0.take k) nm).length < (headSel l0 nm).length) := ⟨fun e => by
        rw [hbb, decide_eq_true_iff] at e
        have h1 := sel_succ_yes l0 nm k Hx.out hk e
        have h2 := (sel_pre l0 nm (k + 1)).length_le
        rw [h1, List.length_append] at h2
        simp at h2
        omega⟩
      clear hbb
      cases bb with
      | true =>
        gi_wp2_with (refine ⟨trivial, ?_⟩; gi_at_call 94; (with_reducible refine (callsIn_wide.2 (text_Same.calls _ _ _ _ HS.out)).mono ?_); rintro e2 w2 ⟨rfl, hb2⟩; have hc2 : w2.cell? ⟨wr.heap.size, 1, none⟩ = some (.string (rd_T41 l0 x).f1) := (blk_cell (blk_below (blk_new _ _) hb2) 1).trans rfl; have HI2 : Aside0 (J (headSel (l0.take k) nm) w2) := ⟨HJ.out _ _ _ none HI.out ((World.grownBy_alloc wr _ none).trans (grown_of_below hb2 none)) (fun _ h => by cases h)⟩; have HN2 : Aside0 (w2.heap[Bn]? = some (.cells #[.string nm] 9 (0, 0))) := ⟨blk_below (blk_alloc HN.out _) hb2⟩; have HB2 : Aside0 (Below ws.heap.size ws w2) := ⟨(HB.out.alloc HB.out.size _).trans (hb2.mono (Nat.le_trans HB.out.size (by simp)))⟩; obtain ⟨fn, tmps, assign, body, hy, hR⟩ := HY.out _ (rd_T41 l0 x).f1 w2 HI2.out (HL.out rfl); have HRR := Aside0.mk hR; clear hR; clear hb2)
        refine HRR.out.mono ?_
        rintro e3 w3 (⟨rfl, hJ3, hk3⟩ | ⟨rfl, hJ3⟩)
        · gi_wp2
          exact ⟨⟨x + 1, k + 1, rfl, ⟨by have := Hx.out; omega⟩, by omega, by omega, ⟨by rw [sel_succ_yes l0 nm k Hx.out hk (of_decide_eq_true Hbb.out.symm)]; exact hJ3⟩, ⟨HB2.out.trans hk3.1⟩, ⟨hk3.2.trans HN2.out⟩⟩, by simp [intOf]; omega⟩
        · gi_wp2
          refine bodyPost_ret (results_none rfl _ _ _) rfl ?_
          exact ⟨⟨_, rfl⟩, .inr ⟨_, by rw [← sel_succ_yes l0 nm k Hx.out hk (of_decide_eq_true Hbb.out.symm)]; exact sel_pre _ _ _, hJ3⟩⟩
      | false =>
        gi_wp2_with (refine ⟨trivial, ?_⟩; gi_at_call 94; (with_reducible refine (callsIn_wide.2 (text_Same.calls _ _ _ _ HS.out)).mono ?_); rintro e2 w2 ⟨rfl, hb2⟩; have HI2 : Aside0 (J (headSel (l0.take k) nm) w2) := ⟨HJ.out _ _ _ none HI.out ((World.grownBy_alloc wr _ none).trans (grown_of_below hb2 none)) (fun _ h => by cases h)⟩; have HN2 : Aside0 (w2.heap[Bn]? = some (.cells #[.string nm] 9 (0, 0))) := ⟨blk_below (blk_alloc HN.out _) hb2⟩; have HB2 : Aside0 (Below ws.heap.size ws w2) := ⟨(HB.out.alloc HB.out.size _).trans (hb2.mono (Nat.le_trans HB.out.size (by simp)))⟩; clear hb2)
        refine ⟨fun _ h => (by cases h), ?_⟩
        gi_wp2
        exact ⟨⟨x + 1, k + 1, rfl, ⟨by have := Hx.out; omega⟩, by omega, by omega, ⟨by rw [sel_succ_no l0 nm k Hx.out hk (of_decide_eq_false Hbb.out.symm)]; exact HI2.out⟩, HB2, HN2⟩, by simp [intOf]; omega⟩
    · have hxe : x = l0.length := by omega
      have hke : k = l0.length := by have := Hx.out; omega
      have hd : decide (x < (l0.length : Int)) = false := decide_eq_false hlt
      have HI2 : Aside0 (J (headSel l0 nm) wr) := ⟨by have := HI.out; rw [hke, List.take_length] at this; exact this⟩
      clear hxe hke
      gi_wp2
      go_end0
      exact ⟨⟨_, rfl⟩, .inl (by first | exact HI2.out | exact ⟨_, rfl, HI2.out⟩)⟩

theorem vals_stops (n : Nat) (hn : 1 ≤ n) (Bm Bn : Nat) (A0 : Option Addr) (c0 : Nat) (l0 : List S41) (a1 : ByteArray) (a2 : Bool) (nm : ByteArray) (hok : headSelOk l0 nm) (ws w0 : World) (hv : ValAt ws w0 Bm Bn A0 c0 l0 a1 a2 nm) :
    SeqStopsK Fence.wide n Tryd.prog 93 #[.pointer (some ⟨Bm, 0, none⟩), .pointer (some ⟨Bn, 0, none⟩)] (fun x : ByteArray => #[Value.string x]) (KeepV ws.heap.size Bn) (fun ys => ys = headSel l0 nm) (fun pre => pre <+: headSel l0 nm) (headSel l0 nm).length w0 :=
  fun l J Jx W hW hJ _ hY h0 => vals_in n hn l Bm Bn A0 c0 l0 a1 a2 nm hok J Jx ws W hJ hY (hv.below hW) h0
set_option maxHeartbeats 1000000 in
theorem vals_made (A0 : Option Addr) (c0 : Nat) (l0 : List S41) (a1 : ByteArray) (a2 : Bool) (nm : ByteArray) (ws w : World) (hr0 : Kd.C k41 ws A0 l0.length l0) (hb0 : Below ws.heap.size ws w) (hc0 : l0.length ≤ c0) :
    Calls Tryd.prog 65 #[.agg #[.slice A0 l0.length c0, .string a1, .bool a2], .string nm] w fun e w' => ∃ Bm Bn : Nat, e = .returned (.func (.func 93) #[] #[.pointer (some ⟨Bm, 0, none⟩), .pointer (some ⟨Bn, 0, none⟩)]) ∧ ValAt ws w' Bm Bn A0 c0 l0 a1 a2 nm ∧ w.heap.size ≤ Bn ∧ Below w.heap.size w w' := by
  have HB0 := Aside0.mk hb0
  clear hb0
  go_enter Tryd.func65, Tryd.ntmps65
  go_wp2
  go_ret
  have hb : Below w.heap.size w ((w.alloc (.cells #[.slice A0 l0.length c0, .string a1, .bool a2] 24)).alloc (.cells #[.string nm] 9)) := below_alloc (below_alloc (Below.refl _ _) _) _
  exact ⟨_, _, rfl, ⟨blk_alloc (blk_new _ _) _, by have := blk_new (w.alloc (.cells #[.slice A0 l0.length c0, .string a1, .bool a2] 24)) (.cells #[.string nm] 9); simpa using this, hr0, hc0, HB0.out.trans (hb.mono HB0.out.size)⟩, by simp, hb⟩
end

section
open Go.Shelf
attribute [local go_sem] Oper.semAt_some
set_option maxRecDepth 100000 in
set_option maxHeartbeats 2000000 in
theorem appendSeq_in (A0 : Option Addr) (c0 : Nat) (l0 : List S41) (a1 : ByteArray) (a2 : Bool) (nm : ByteArray) (hok : headSelOk l0 nm) (ws w : World) (Bm Bn : Nat) (hv : ValAt ws w Bm Bn A0 c0 l0 a1 a2 nm) :
    CallsIn Fence.wide 9 Tryd.prog 92 #[.slice none 0 0, .func (.func 93) #[] #[.pointer (some ⟨Bm, 0, none⟩), .pointer (some ⟨Bn, 0, none⟩)]] w fun e w' => ∃ v, e = .returned v ∧ Kd.R Kd.string 9 w' w.heap.size (fun _ => True) v (headSel l0 nm) ∧ Below w.heap.size w w' := by
  have hl9 : (headSel l0 nm).length ≤ 1000000000000 := Nat.le_trans (by unfold headSel; rw [List.length_map]; exact List.length_filter_le _ _) hok.2.2
  have HK := Aside0.mk hok
  have HL9 := Aside0.mk hl9
  have HV := Aside0.mk hv
  clear hok hv hl9
  obtain ⟨i0, hi, hz0, hz1, hz2⟩ := info_parts info9
  refine callsIn_of_wp_marks Tryd.func92 rfl trivial ?_ rfl
  simp only [Tryd.ntmps92, List.size_toArray, List.length_cons, List.length_nil, Nat.reduceAdd, Nat.reduceSub, Array.replicate_succ, Array.replicate_zero, List.push_toArray, List.append_toArray, List.nil_append, List.cons_append]
  gi_wp2_with fail
  have bO := Boxed.new w 37 (.slice none 0 0)
  have hB0 : Below w.heap.size w (w.alloc (.cells #[.slice none 0 0] 37)) := (Below.refl _ w).alloc (Nat.le_refl _) _
  refine wpIn_rangeFunc_ownG rfl (by omega) (gf := 93) (lb := #[.pointer (some ⟨Bm, 0, none⟩), .pointer (some ⟨Bn, 0, none⟩)]) rfl trivial (enters_of Tryd.func93 (by kernel_rfl) rfl)
    (vals_stops _ (by omega) Bm Bn A0 c0 l0 a1 a2 nm HK.out ws _ (HV.out.below hB0)) KeepV.t (KeepV.b (Nat.le_trans HV.out.b.size (by simp)) (by have := blk_lt HV.out.n; simp; omega)) (Below.refl _ _) (fun _ => rfl)
    (fun pre W => (∃ v, Boxed W w.heap.size 37 v ∧ W.ownsRow w.heap.size 9 1 v pre.length (pre.map Value.string) ∧ True) ∧ Below w.heap.size w W)
    (fun _ _ _ => False)
    (OwnFrom.and (Own.from (holdsRow_own w.heap.size w.heap.size 37 9 1 (fun pre : List ByteArray => pre.length) (fun pre => pre.map Value.string) (fun pre v => True)) _) (ownFrom_below (Nat.le_refl _) (by simp)))
    (fun _ _ _ _ _ hs _ _ => hs)
    ⟨⟨_, bO, World.ownsRow_nil _ _ _ _, trivial⟩, hB0⟩
    (fun x => { tmps := #[.slice none 0 0, .func (.func 93) #[] #[.pointer (some ⟨Bm, 0, none⟩), .pointer (some ⟨Bn, 0, none⟩)], .pointer (some ⟨w.heap.size, 0, none⟩), undef, .slice none 0 0, .string x, .func (.func 93) #[] #[.pointer (some ⟨Bm, 0, none⟩), .pointer (some ⟨Bn, 0, none⟩)], .string x, undef, undef, undef, undef, undef], defers := [] }) ?assign ?body ?done ?stop
  case assign =>
    intro l x W K hK
    gi_wp2
    exact hK
  case body =>
    rintro l pre x W ⟨⟨v, hv, hrow, _⟩, hB⟩ hlt
    have hc := hv.cell
    have hp : pre.length ≤ 1000000000000 := by have := HL9.out; omega
    clear hlt
    gi_wp2_with (gi_at_builtin; refine wpListIn_append_own _ rfl _ _ 37 rfl w.heap.size 9 i0 (.string ⟨#[]⟩) 1 16 Tryd.underlying37 hi hz0 hz1 hz2 rfl (by decide) _ _ _ rfl (hrow.alloc _) ⟨W.heap.size, 0, none⟩ 1 1 [.string x] rfl rfl (cell_one_new _ _ _) (by simp [Value.oneCell']) (by simp only [maxLen]; omega) (by omega) (by have := hB.size; simp; omega) ?_; intro v' w1 hown' hgrow _; obtain ⟨g', cap', rfl⟩ := ownsRow_succ hown'; obtain ⟨hv1, hv2, hr2, hk2, hb2⟩ := hv.appended (by decide) hrow hB.size (Nat.le_refl _) hown' hgrow; have hc1 := hv1.cell; have hf1 := hv1.frozen)
    exact ⟨hk2.from _, ⟨hb2.mono HV.out.b.size, hb2.block Bn (blk_lt HV.out.n)⟩, ⟨_, hv2, by simpa using hr2, trivial⟩, hB.trans hb2⟩
  case done =>
    rintro D ys W hD rfl ⟨⟨v, hv, hrow, _⟩, hB⟩ hK
    have hc := hv.cell
    gi_wp2
    refine ⟨by simp, .inl ⟨_, _, rfl, run_takeDeferred hK, ?_⟩⟩
    exact ⟨_, results_tmp rfl _ _ _, v, rfl, Kd.R_of_own (ownsRow_putObj hrow _ hK rfl) (fun _ _ => trivial), hB.trans (belowK_b (w := w) (Nat.le_refl _) W D _ _ (by simp at hD; omega) hK rfl rfl)⟩
  case stop =>
    rintro D c pre W _ _ h _
    exact h.elim
set_option maxRecDepth 100000 in
set_option maxHeartbeats 2000000 in
theorem collect_calls (A0 : Option Addr) (c0 : Nat) (l0 : List S41) (a1 : ByteArray) (a2 : Bool) (nm : ByteArray) (hok : headSelOk l0 nm) (ws w : World) (Bm Bn : Nat) (hv : ValAt ws w Bm Bn A0 c0 l0 a1 a2 nm) :
    Calls Tryd.prog 64 #[.func (.func 93) #[] #[.pointer (some ⟨Bm, 0, none⟩), .pointer (some ⟨Bn, 0, none⟩)]] w fun e w' => ∃ v, e = .returned v ∧ Kd.R Kd.string 9 w' w.heap.size (fun _ => True) v (headSel l0 nm) ∧ Below w.heap.size w w' := by
  have HK := Aside0.mk hok
  have HV := Aside0.mk hv
  clear hok hv
  go_enter Tryd.func64, Tryd.ntmps64
  go_wp2_with (go_at_call 92; (with_reducible refine (callsIn_wide.1 (appendSeq_in A0 c0 l0 a1 a2 nm HK.out ws _ Bm Bn HV.out)).mono ?_); rintro e w2 ⟨v, rfl, hr, hb⟩)
  go_ret
  exact ⟨v, rfl, hr, hb⟩
set_option maxRecDepth 100000 in
set_option maxHeartbeats 2000000 in
theorem find_calls (A0 : Option Addr) (c0 : Nat) (l0 : List S41) (a1 : ByteArray) (a2 : Bool) (nm : ByteArray) (hok : headSelOk l0 nm) (w : World) (hr0 : Kd.C k41 w A0 l0.length l0) (hc0 : l0.length ≤ c0) :
    Calls Tryd.prog 28 #[.agg #[.slice A0 l0.length c0, .string a1, .bool a2], .string nm] w fun e w' => ∃ v, e = .returned v ∧ Kd.R Kd.string 9 w' w.heap.size (fun _ => True) v (headSel l0 nm) ∧ Below w.heap.size w w' := by
  have HK := Aside0.mk hok
  have HC := Aside0.mk hc0
  have HR := Aside0.mk hr0
  clear hok hr0 hc0
  go_enter Tryd.func28, Tryd.ntmps28
  go_wp2_with (first | (go_at_call 65; (with_reducible refine (vals_made A0 c0 l0 a1 a2 nm w _ HR.out (below_alloc (Below.refl _ _) _) HC.out).mono ?_); rintro e w2 ⟨Bm, Bn, rfl, hv, hz, hb⟩; have HV := Aside0.mk hv; have HB := Aside0.mk hb; clear hv hz hb) | (go_at_call 64; (with_reducible refine (collect_calls A0 c0 l0 a1 a2 nm HK.out w _ Bm Bn HV.out).mono ?_); rintro e w3 ⟨v, rfl, hr, hb3⟩))
  go_ret
  exact ⟨v, rfl, Kd.R_lower hr HV.out.b.size, HV.out.b.trans (hb3.mono HV.out.b.size)⟩
end
def head_Message_Find.f (l0 : List S41) (_a1 : ByteArray) (_a2 : Bool) (a3 : ByteArray) : Option (List ByteArray) := if headSelOk l0 a3 then some (headSel l0 a3) else none
theorem head_Message_Find.calls (A0 : Option Addr) (c0 : Nat) (l0 : List S41) (a1 : ByteArray) (a2 : Bool) (a3 : ByteArray) (r : List ByteArray) (w : World) (hr0 : Kd.C k41 w A0 l0.length l0) (hc0 : l0.length ≤ c0) (h : head_Message_Find.f l0 a1 a2 a3 = some r) :
    Calls Tryd.prog 28 #[.agg #[.slice A0 l0.length c0, .string a1, .bool a2], .string a3] w fun e w' => ∃ v0_ : Value, e = .returned (v0_) ∧ Kd.R Kd.string 9 w' w.heap.size (fun _ => True) v0_ r ∧ Below w.heap.size w w' := by
  unfold head_Message_Find.f at h
  by_cases hok : headSelOk l0 a3
  · rw [if_pos hok] at h
    obtain rfl := Option.some.inj h
    exact find_calls A0 c0 l0 a1 a2 a3 hok w hr0 hc0
  · rw [if_neg hok] at h; cases h


/-! ### head_Message_Count: function 29 (by hand) -/
section
open Go.Shelf
attribute [local go_sem] Oper.semAt_some
set_option maxRecDepth 100000 in
set_option maxHeartbeats 2000000 in
theorem count_in (A0 : Option Addr) (c0 : Nat) (l0 : List S41) (a1 : ByteArray) (a2 : Bool) (nm : ByteArray) (hok : headSelOk l0 nm) (w : World) (hr0 : Kd.C k41 w A0 l0.length l0) (hc0 : l0.length ≤ c0) :
    CallsIn Fence.wide 9 Tryd.prog 29 #[.agg #[.slice A0 l0.length c0, .string a1, .bool a2], .string nm] w fun e w' => e = .returned (.int .i64 (headSel l0 nm).length) ∧ Below w.heap.size w w' := by
  have hl9 : (headSel l0 nm).length ≤ 1000000000000 := Nat.le_trans (by unfold headSel; rw [List.length_map]; exact List.length_filter_le _ _) hok.2.2
  have HK := Aside0.mk hok
  have HL9 := Aside0.mk hl9
  have HC := Aside0.mk hc0
  have HR := Aside0.mk hr0
  clear hok hr0 hc0 hl9
  refine callsIn_of_wp_marks Tryd.func29 rfl trivial ?_ rfl
  simp only [Tryd.ntmps29, List.size_toArray, List.length_cons, List.length_nil, Nat.reduceAdd, Nat.reduceSub, Array.replicate_succ, Array.replicate_zero, List.push_toArray, List.append_toArray, List.nil_append, List.cons_append]
  gi_wp2_with (refine ⟨trivial, ?_⟩; gi_at_call 65; (with_reducible refine (callsIn_wide.2 (vals_made A0 c0 l0 a1 a2 nm w _ HR.out (below_alloc (below_alloc (Below.refl _ _) _) _) HC.out)).mono ?_); rintro e w2 ⟨Bm, Bn, rfl, hv, hz, hb⟩; have HBn := Aside0.mk hz; clear hz; have HV := Aside0.mk hv; have HB := Aside0.mk hb; clear hv hb)
  have HC2 : Aside0 (w2.cell? ⟨w.heap.size + 1, 0, none⟩ = some (.int .i64 ([] : List ByteArray).length)) := ⟨by
    have := blk_cell (blk_below (blk_new (w.alloc (Obj.cells #[Value.slice A0 l0.length c0, Value.string a1, Value.bool a2] 24)) (Obj.cells #[Value.int IntKind.i64 0] 3)) HB.out) 0
    simpa using this⟩
  have HF2 : Aside0 (w2.frozen? ⟨w.heap.size + 1, 0, none⟩ = false) := ⟨by
    have := blk_frozen (blk_below (blk_new (w.alloc (Obj.cells #[Value.slice A0 l0.length c0, Value.string a1, Value.bool a2] 24)) (Obj.cells #[Value.int IntKind.i64 0] 3)) HB.out) 0
    simpa using this⟩
  have HW2 : Aside0 (Below w.heap.size w w2) := ⟨(below_alloc (below_alloc (Below.refl _ _) _) _).trans (HB.out.mono (by simp; omega))⟩
  have HZ : Aside0 (w.heap.size + 2 ≤ w2.heap.size) := ⟨Nat.le_trans (by simp) HB.out.size⟩
  refine wpIn_rangeFunc_ownF rfl (by omega) (gf := 93) (lb := #[.pointer (some ⟨Bm, 0, none⟩), .pointer (some ⟨Bn, 0, none⟩)]) rfl trivial (enters_of Tryd.func93 (by kernel_rfl) rfl)
    (vals_stops _ (by omega) Bm Bn A0 c0 l0 a1 a2 nm HK.out w w2 HV.out) KeepV.t (KeepV.b HW2.out.size (blk_lt HV.out.n)) (Below.refl _ _) (fun _ => rfl)
    (fun pre W => (W.cell? ⟨w.heap.size + 1, 0, none⟩ = some (.int .i64 pre.length) ∧ W.frozen? ⟨w.heap.size + 1, 0, none⟩ = false) ∧ Below w.heap.size w W)
    (fun _ _ _ => False)
    (OwnFrom.and (Own.from (fun s A B row hs hg hr => ⟨cell_kept hs.1 hg hr, (frozen_kept hs.1 hg hr).trans hs.2⟩) _) (ownFrom_below (Nat.le_refl _) HW2.out.size))
    (fun _ _ _ _ _ hs _ _ => hs)
    ⟨⟨HC2.out, HF2.out⟩, HW2.out⟩
    (fun x => { tmps := #[.agg #[.slice A0 l0.length c0, .string a1, .bool a2], .string nm, .pointer (some ⟨w.heap.size, 0, none⟩), undef, .int .i64 0, .pointer (some ⟨w.heap.size + 1, 0, none⟩), .agg #[.slice A0 l0.length c0, .string a1, .bool a2], .string nm, .func (.func 93) #[] #[.pointer (some ⟨Bm, 0, none⟩), .pointer (some ⟨Bn, 0, none⟩)], .string x, undef, undef, undef], defers := [] }) ?assign ?body ?done ?stop
  case assign =>
    intro l x W K hK
    gi_wp2
    simpa using hK
  case body =>
    rintro l pre x W ⟨⟨hc, hf⟩, hB⟩ hlt
    have hp : pre.length ≤ 1000000000000 := by have := HL9.out; omega
    clear hlt
    gi_wp2
    have hne : Bn ≠ w.heap.size + 1 := by have := HBn.out; simp at this; omega
    exact ⟨KeepsOthers.setCell _ _ _, ⟨(Below.refl w.heap.size W).setCell (p := ⟨w.heap.size + 1, 0, none⟩) (by simp) _, Below.heap_setCell _ _ _ _ hne⟩, ⟨by rw [List.length_append]; exact World.cell?_setCell_same' _ _ _ (by rw [hc]; rfl), by rw [World.frozen?_setCell]; exact hf⟩, hB.setCell (p := ⟨w.heap.size + 1, 0, none⟩) (by simp) _⟩
  case done =>
    rintro D ys W hD rfl ⟨⟨hc, _⟩, hB⟩ hK
    gi_wp2
    refine ⟨by simp, .inl ⟨_, _, rfl, run_takeDeferred hK, ?_⟩⟩
    exact ⟨_, results_tmp rfl _ _ _, rfl, hB.trans (belowK_b (w := w) (Nat.le_refl _) W D _ _ (by have := HZ.out; omega) hK rfl rfl)⟩
  case stop =>
    rintro D c pre W _ _ h _
    exact h.elim
end
def head_Message_Count.f (l0 : List S41) (_a1 : ByteArray) (_a2 : Bool) (a3 : ByteArray) : Option Int := if headSelOk l0 a3 then some (headSel l0 a3).length else none
theorem head_Message_Count.calls (A0 : Option Addr) (c0 : Nat) (l0 : List S41) (a1 : ByteArray) (a2 : Bool) (a3 : ByteArray) (r : Int) (w : World) (hr0 : Kd.C k41 w A0 l0.length l0) (hc0 : l0.length ≤ c0) (h : head_Message_Count.f l0 a1 a2 a3 = some r) :
    Calls Tryd.prog 29 #[.agg #[.slice A0 l0.length c0, .string a1, .bool a2], .string a3] w fun e w' => e = .returned (.int .i64 r) ∧ Below w.heap.size w w' := by
  unfold head_Message_Count.f at h
  by_cases hok : headSelOk l0 a3
  · rw [if_pos hok] at h
    obtain rfl := Option.some.inj h
    exact callsIn_wide.1 (count_in A0 c0 l0 a1 a2 a3 hok w hr0 hc0)
  · rw [if_neg hok] at h; cases h


end Go.Proofs.YtdciiahlakgikaaDoor.Q
end
section
namespace Go.Proofs.YtdciiahlakgikaaDoor.Q
open Go.RowKit Go.Proofs.YtdciiahlakgikaaDoorW.PrintWords Go.Proofs.YtdciiahlakgikaaDoorW.PrintLast Go.Proofs.YtdciiahlakgikaaDoorW.PrintMore
attribute [local go_sem] max2_int min2_int max_two min_two max_three min_three max_four min_four   -- for this text's walks alone
set_option linter.unusedVariables false
set_option linter.unusedSimpArgs false

/-! ### postriderlaw07_HeadTells: function 5 -/
def postriderlaw07_HeadTells.f (k : Nat) (l0_0 : List (S41)) (a0_1 : ByteArray) (a0_2 : Bool) (a1 : ByteArray) : Option (Bool) := (postriderlaw07_Few.f k l0_0 a0_1 a0_2).bind fun bt302 => (if 0 ≤ (mn (a1.size : Int) 100) then (if (mn (a1.size : Int) 100) ≤ (a1.size : Int) then ((postriderlaw07_Of.f k bt302.1 bt302.2.1 bt302.2.2).bind fun bt307 => ((postriderref07_Find.f k bt307.1 bt307.2.1 bt307.2.2 (a1.extract 0 ((mn (a1.size : Int) 100) : Int).toNat)).bind fun t313 => ((head_Message_May.f k bt302.1 bt302.2.1 bt302.2.2).bind fun t316 => ((postriderref07_May.f k bt307.1 bt307.2.1 bt307.2.2).bind fun t317 => (if (t316 == t317) = true then ((head_Message_Text.f bt302.1 bt302.2.1 bt302.2.2).bind fun t318 => ((postriderref07_Text.f k bt307.1 bt307.2.1 bt307.2.2).bind fun t319 => (if t318.toList = t319.toList then ((head_Message_Find.f bt302.1 bt302.2.1 bt302.2.2 (a1.extract 0 ((mn (a1.size : Int) 100) : Int).toNat)).bind fun t320 => ((slices_Equal_string_string.f k t320 t313).bind fun t323 => (if t323 = true then ((head_Message_Count.f bt302.1 bt302.2.1 bt302.2.2 (a1.extract 0 ((mn (a1.size : Int) 100) : Int).toNat)).bind fun t324 => (if t324 = (t313.length : Int) then ((postriderlaw07_Of.f k bt302.1 bt302.2.1 bt302.2.2).bind fun bt325 => ((postriderref07_Same.f k bt325.1 bt325.2.1 bt325.2.2 bt307.1 bt307.2.1 bt307.2.2).bind fun t330 => (if t330 = true then ((postriderlaw07_wakes.f k).bind fun t331 => (some t331)) else (some false)))) else (some false))) else (some false)))) else (some false)))) else (some false)))))) else (none)) else (none))
theorem postriderlaw07_HeadTells.mono : ∀ a0 a1 a2 a3 k, LeO (postriderlaw07_HeadTells.f k a0 a1 a2 a3) (postriderlaw07_HeadTells.f (k + 1) a0 a1 a2 a3) := by
 intro a0 a1 a2 a3 k
 unfold postriderlaw07_HeadTells.f
 repeat' first
   | (with_reducible exact head_Message_May.mono _ _ _ _)
   | (with_reducible exact postriderlaw07_Few.mono _ _ _ _)
   | (with_reducible exact postriderlaw07_Of.mono _ _ _ _)
   | (with_reducible exact postriderlaw07_wakes.mono _)
   | (with_reducible exact postriderref07_Find.mono _ _ _ _ _)
   | (with_reducible exact postriderref07_May.mono _ _ _ _)
   | (with_reducible exact postriderref07_Same.mono _ _ _ _ _ _ _)
   | (with_reducible exact postriderref07_Text.mono _ _ _ _)
   | (with_reducible exact slices_Equal_string_string.mono _ _ _)
   | (with_reducible exact LeO.refl _)
   | (with_reducible exact LeO.none _)
   | (with_reducible refine LeO.ite ?_ ?_)
   | (with_reducible refine LeO.bind ?_ (fun _ => ?_))
   | exact head_Message_May.mono _ _ _ _
   | exact postriderlaw07_Few.mono _ _ _ _
   | exact postriderlaw07_Of.mono _ _ _ _
   | exact postriderlaw07_wakes.mono _
   | exact postriderref07_Find.mono _ _ _ _ _
   | exact postriderref07_May.mono _ _ _ _
   | exact postriderref07_Same.mono _ _ _ _ _ _ _
   | exact postriderref07_Text.mono _ _ _ _
   | exact slices_Equal_string_string.mono _ _ _
   | exact LeO.none _
   | refine LeO.ite ?_ ?_
   | refine LeO.bind ?_ (fun _ => ?_)
def postriderlaw07_HeadTells.T1 : Bool × List (List Nat × List Nat) := (true, [([], []), ([0], [0]), ([], []), ([], []), ([3], [3]), ([4], [4]), ([2, 5], [2, 5]), ([1, 1, 0, 1], [1]), ([6, 7, 0, 1, 2, 3, 4, 5, 6, 7], [2, 3, 6])])
def postriderlaw07_HeadTells.B1 : List Nat := [0, 1, 0, 0, 8, 24, 60, 3, 255]
theorem postriderlaw07_HeadTells.tab1 : rtab .any (opsOf Tryd.f5 1) = postriderlaw07_HeadTells.T1 := by kernel_rfl
theorem postriderlaw07_HeadTells.bits1 : waitsOk postriderlaw07_HeadTells.T1.2 postriderlaw07_HeadTells.B1 = true := by kernel_rfl
def postriderlaw07_HeadTells.T4 : Bool × List (List Nat × List Nat) := (true, [([], []), ([0], [0]), ([], []), ([2, 1], [2]), ([1, 3], [1, 3]), ([4, 3], [4]), ([5], [5]), ([6, 5, 5], [5, 6]), ([5], [5]), ([8, 7, 5], [5, 8]), ([7, 9, 5], [5, 7, 9]), ([5, 10], [5, 10]), ([11, 9], [11]), ([12], [12]), ([12], [12]), ([13, 14, 12, 12], [12, 13, 14]), ([12], [12]), ([15, 16, 15, 12], [12, 15, 16]), ([12, 17], [12, 17]), ([18, 17], [18]), ([19], [19]), ([19], [19]), ([20, 21, 19, 19], [19, 20, 21]), ([19], [19]), ([23, 19], [19, 23]), ([22, 24, 19], [19, 22, 24]), ([19, 25], [19, 25]), ([26, 22], [26]), ([27], [27]), ([28, 27, 27], [27, 28]), ([27], [27]), ([29, 30, 29, 27], [27, 29, 30]), ([27, 31], [27, 31]), ([32, 31], [32]), ([33, 33], [33]), ([33, 34], [33, 34]), ([35, 34, 0, 1, 2, 3, 4, 5, 6, 7, 8, 9, 10, 11, 12, 13, 14, 15, 16, 17, 18, 19, 20, 21, 22, 23, 24, 25, 26, 27, 28, 29, 30, 31, 32, 33, 34, 35], [35])])
def postriderlaw07_HeadTells.B4 : List Nat := [0, 1, 0, 7, 15, 31, 63, 127, 63, 511, 1023, 2047, 4095, 8191, 8191, 32767, 8191, 131071, 262143, 524287, 1048575, 1048575, 4194303, 1048575, 9437183, 33554431, 67108863, 134217727, 268435455, 536870911, 268435455, 2147483647, 4294967295, 8589934591, 17179869183, 34359738367, 68719476735]
theorem postriderlaw07_HeadTells.tab4 : rtab .any (opsOf Tryd.f5 4) = postriderlaw07_HeadTells.T4 := by kernel_rfl
theorem postriderlaw07_HeadTells.bits4 : waitsOk postriderlaw07_HeadTells.T4.2 postriderlaw07_HeadTells.B4 = true := by kernel_rfl
set_option maxHeartbeats 8000000 in
set_option maxRecDepth 100000 in
theorem postriderlaw07_HeadTells.calls (k : Nat) (A0_0 : Option Addr) (c0_0 : Nat) (l0_0 : List (S41)) (a0_1 : ByteArray) (a0_2 : Bool) (a1 : ByteArray) (r : Bool) (w : World) (hr0_0 : Kd.C k41 w A0_0 l0_0.length l0_0) (hc0_0 : l0_0.length ≤ c0_0) (hG : Glob w) (hT : r = true) (h : postriderlaw07_HeadTells.f k l0_0 a0_1 a0_2 a1 = some r) :
  Calls Tryd.prog 5 #[.agg #[.slice A0_0 l0_0.length c0_0, .string a0_1, .bool a0_2], .string a1] w fun e w' => e = .returned (.bool r) ∧ Below w.heap.size w w' := by
 have hu24 := Tryd.underlying24
 have hu30 := Tryd.underlying30
 have HR0_0 := Aside0.mk hr0_0
 have HC0_0 := Aside0.mk hc0_0
 clear hr0_0 hc0_0
 have HB := Aside0.mk (Below.refl w.heap.size w)
 have HG := Aside0.mk hG
 clear hG
 have HT_r := Aside0.mk hT
 clear hT
 have H : ((postriderlaw07_Few.f k l0_0 a0_1 a0_2).bind fun bt302 => (if 0 ≤ (mn (a1.size : Int) 100) then (if (mn (a1.size : Int) 100) ≤ (a1.size : Int) then ((postriderlaw07_Of.f k bt302.1 bt302.2.1 bt302.2.2).bind fun bt307 => ((postriderref07_Find.f k bt307.1 bt307.2.1 bt307.2.2 (a1.extract 0 ((mn (a1.size : Int) 100) : Int).toNat)).bind fun t313 => ((head_Message_May.f k bt302.1 bt302.2.1 bt302.2.2).bind fun t316 => ((postriderref07_May.f k bt307.1 bt307.2.1 bt307.2.2).bind fun t317 => (if (t316 == t317) = true then ((head_Message_Text.f bt302.1 bt302.2.1 bt302.2.2).bind fun t318 => ((postriderref07_Text.f k bt307.1 bt307.2.1 bt307.2.2).bind fun t319 => (if t318.toList = t319.toList then ((head_Message_Find.f bt302.1 bt302.2.1 bt302.2.2 (a1.extract 0 ((mn (a1.size : Int) 100) : Int).toNat)).bind fun t320 => ((slices_Equal_string_string.f k t320 t313).bind fun t323 => (if t323 = true then ((head_Message_Count.f bt302.1 bt302.2.1 bt302.2.2 (a1.extract 0 ((mn (a1.size : Int) 100) : Int).toNat)).bind fun t324 => (if t324 = (t313.length : Int) then ((postriderlaw07_Of.f k bt302.1 bt302.2.1 bt302.2.2).bind fun bt325 => ((postriderref07_Same.f k bt325.1 bt325.2.1 bt325.2.2 bt307.1 bt307.2.1 bt307.2.2).bind fun t330 => (if t330 = true then ((postriderlaw07_wakes.f k).bind fun t331 => (some t331)) else (some false)))) else (some false))) else (some false)))) else (some false)))) else (some false)))))) else (none)) else (none))) = some r := h
 clear h
 replace H := Option.bind_eq_some_iff.mp H
 obtain ⟨⟨t302, t305, t306⟩, A30, H⟩ := H
 replace H : (if 0 ≤ (mn (a1.size : Int) 100) then (if (mn (a1.size : Int) 100) ≤ (a1.size : Int) then ((postriderlaw07_Of.f k t302 t305 t306).bind fun bt307 => ((postriderref07_Find.f k bt307.1 bt307.2.1 bt307.2.2 (a1.extract 0 ((mn (a1.size : Int) 100) : Int).toNat)).bind fun t313 => ((head_Message_May.f k t302 t305 t306).bind fun t316 => ((postriderref07_May.f k bt307.1 bt307.2.1 bt307.2.2).bind fun t317 => (if (t316 == t317) = true then ((head_Message_Text.f t302 t305 t306).bind fun t318 => ((postriderref07_Text.f k bt307.1 bt307.2.1 bt307.2.2).bind fun t319 => (if t318.toList = t319.toList then ((head_Message_Find.f t302 t305 t306 (a1.extract 0 ((mn (a1.size : Int) 100) : Int).toNat)).bind fun t320 => ((slices_Equal_string_string.f k t320 t313).bind fun t323 => (if t323 = true then ((head_Message_Count.f t302 t305 t306 (a1.extract 0 ((mn (a1.size : Int) 100) : Int).toNat)).bind fun t324 => (if t324 = (t313.length : Int) then ((postriderlaw07_Of.f k t302 t305 t306).bind fun bt325 => ((postriderref07_Same.f k bt325.1 bt325.2.1 bt325.2.2 bt307.1 bt307.2.1 bt307.2.2).bind fun t330 => (if t330 = true then ((postriderlaw07_wakes.f k).bind fun t331 => (some t331)) else (some false)))) else (some false))) else (some false)))) else (some false)))) else (some false)))))) else (none)) else (none)) = some r := H
 have A3 := Aside0.mk A30
 clear A30
 obtain ⟨ji4, hji4⟩ : ∃ j_ : Int, (mn (a1.size : Int) 100) = j_ := ⟨_, rfl⟩
 replace H : (if 0 ≤ (ji4) then (if (ji4) ≤ (a1.size : Int) then ((postriderlaw07_Of.f k t302 t305 t306).bind fun bt307 => ((postriderref07_Find.f k bt307.1 bt307.2.1 bt307.2.2 (a1.extract 0 ((ji4) : Int).toNat)).bind fun t313 => ((head_Message_May.f k t302 t305 t306).bind fun t316 => ((postriderref07_May.f k bt307.1 bt307.2.1 bt307.2.2).bind fun t317 => (if (t316 == t317) = true then ((head_Message_Text.f t302 t305 t306).bind fun t318 => ((postriderref07_Text.f k bt307.1 bt307.2.1 bt307.2.2).bind fun t319 => (if t318.toList = t319.toList then ((head_Message_Find.f t302 t305 t306 (a1.extract 0 ((ji4) : Int).toNat)).bind fun t320 => ((slices_Equal_string_string.f k t320 t313).bind fun t323 => (if t323 = true then ((head_Message_Count.f t302 t305 t306 (a1.extract 0 ((ji4) : Int).toNat)).bind fun t324 => (if t324 = (t313.length : Int) then ((postriderlaw07_Of.f k t302 t305 t306).bind fun bt325 => ((postriderref07_Same.f k bt325.1 bt325.2.1 bt325.2.2 bt307.1 bt307.2.1 bt307.2.2).bind fun t330 => (if t330 = true then ((postriderlaw07_wakes.f k).bind fun t331 => (some t331)) else (some false)))) else (some false))) else (some false)))) else (some false)))) else (some false)))))) else (none)) else (none)) = some r := by first | (rw [hji4] at H; exact H) | (simp only [hji4] at H ⊢; exact H)
 (try rw [hji4] at A3)
 (try (have hji4h : ji4 ≤ 100 := by (rw [← hji4]; unfold mn; (repeat' split) <;> omega)))
 (try (have hji4g : ji4 ≤ 64 := by omega))
 (try (have hji4l : 0 ≤ ji4 := by (rw [← hji4]; unfold mn; (repeat' split) <;> omega)))
 (try (have hji4m : 0 ≤ ji4 := by omega))
 have hji4_ : (if 100 < (a1.size : Int) then 100 else (a1.size : Int)) = ji4 := hji4
 by_cases c5 : 0 ≤ (ji4)
 ·rw [if_pos c5] at H
  have c5b0 := eq_true c5
  have c5b1 : decide (0 ≤ (ji4)) = true := decide_eq_true c5
  clear c5
  by_cases c6 : (ji4) ≤ (a1.size : Int)
  ·rw [if_pos c6] at H
   have c6b0 := eq_true c6
   have c6b1 : decide ((ji4) ≤ (a1.size : Int)) = true := decide_eq_true c6
   clear c6
   obtain ⟨js7, hjs7⟩ : ∃ j_ : ByteArray, (a1.extract 0 ((ji4) : Int).toNat) = j_ := ⟨_, rfl⟩
   replace H : ((postriderlaw07_Of.f k t302 t305 t306).bind fun bt307 => ((postriderref07_Find.f k bt307.1 bt307.2.1 bt307.2.2 js7).bind fun t313 => ((head_Message_May.f k t302 t305 t306).bind fun t316 => ((postriderref07_May.f k bt307.1 bt307.2.1 bt307.2.2).bind fun t317 => (if (t316 == t317) = true then ((head_Message_Text.f t302 t305 t306).bind fun t318 => ((postriderref07_Text.f k bt307.1 bt307.2.1 bt307.2.2).bind fun t319 => (if t318.toList = t319.toList then ((head_Message_Find.f t302 t305 t306 js7).bind fun t320 => ((slices_Equal_string_string.f k t320 t313).bind fun t323 => (if t323 = true then ((head_Message_Count.f t302 t305 t306 js7).bind fun t324 => (if t324 = (t313.length : Int) then ((postriderlaw07_Of.f k t302 t305 t306).bind fun bt325 => ((postriderref07_Same.f k bt325.1 bt325.2.1 bt325.2.2 bt307.1 bt307.2.1 bt307.2.2).bind fun t330 => (if t330 = true then ((postriderlaw07_wakes.f k).bind fun t331 => (some t331)) else (some false)))) else (some false))) else (some false)))) else (some false)))) else (some false)))))) = some r := by first | (rw [hjs7] at H; exact H) | (simp only [hjs7] at H ⊢; exact H)
   replace H := Option.bind_eq_some_iff.mp H
   obtain ⟨⟨t307, t310, t311⟩, A80, H⟩ := H
   replace H : ((postriderref07_Find.f k t307 t310 t311 js7).bind fun t313 => ((head_Message_May.f k t302 t305 t306).bind fun t316 => ((postriderref07_May.f k t307 t310 t311).bind fun t317 => (if (t316 == t317) = true then ((head_Message_Text.f t302 t305 t306).bind fun t318 => ((postriderref07_Text.f k t307 t310 t311).bind fun t319 => (if t318.toList = t319.toList then ((head_Message_Find.f t302 t305 t306 js7).bind fun t320 => ((slices_Equal_string_string.f k t320 t313).bind fun t323 => (if t323 = true then ((head_Message_Count.f t302 t305 t306 js7).bind fun t324 => (if t324 = (t313.length : Int) then ((postriderlaw07_Of.f k t302 t305 t306).bind fun bt325 => ((postriderref07_Same.f k bt325.1 bt325.2.1 bt325.2.2 t307 t310 t311).bind fun t330 => (if t330 = true then ((postriderlaw07_wakes.f k).bind fun t331 => (some t331)) else (some false)))) else (some false))) else (some false)))) else (some false)))) else (some false))))) = some r := H
   have A8 := Aside0.mk A80
   clear A80
   replace H := Option.bind_eq_some_iff.mp H
   obtain ⟨t313, A90, H⟩ := H
   replace H : ((head_Message_May.f k t302 t305 t306).bind fun t316 => ((postriderref07_May.f k t307 t310 t311).bind fun t317 => (if (t316 == t317) = true then ((head_Message_Text.f t302 t305 t306).bind fun t318 => ((postriderref07_Text.f k t307 t310 t311).bind fun t319 => (if t318.toList = t319.toList then ((head_Message_Find.f t302 t305 t306 js7).bind fun t320 => ((slices_Equal_string_string.f k t320 t313).bind fun t323 => (if t323 = true then ((head_Message_Count.f t302 t305 t306 js7).bind fun t324 => (if t324 = (t313.length : Int) then ((postriderlaw07_Of.f k t302 t305 t306).bind fun bt325 => ((postriderref07_Same.f k bt325.1 bt325.2.1 bt325.2.2 t307 t310 t311).bind fun t330 => (if t330 = true then ((postriderlaw07_wakes.f k).bind fun t331 => (some t331)) else (some false)))) else (some false))) else (some false)))) else (some false)))) else (some false)))) = some r := H
   have A9 := Aside0.mk A90
   clear A90
   replace H := Option.bind_eq_some_iff.mp H
   obtain ⟨t316, A100, H⟩ := H
   replace H : ((postriderref07_May.f k t307 t310 t311).bind fun t317 => (if (t316 == t317) = true then ((head_Message_Text.f t302 t305 t306).bind fun t318 => ((postriderref07_Text.f k t307 t310 t311).bind fun t319 => (if t318.toList = t319.toList then ((head_Message_Find.f t302 t305 t306 js7).bind fun t320 => ((slices_Equal_string_string.f k t320 t313).bind fun t323 => (if t323 = true then ((head_Message_Count.f t302 t305 t306 js7).bind fun t324 => (if t324 = (t313.length : Int) then ((postriderlaw07_Of.f k t302 t305 t306).bind fun bt325 => ((postriderref07_Same.f k bt325.1 bt325.2.1 bt325.2.2 t307 t310 t311).bind fun t330 => (if t330 = true then ((postriderlaw07_wakes.f k).bind fun t331 => (some t331)) else (some false)))) else (some false))) else (some false)))) else (some false)))) else (some false))) = some r := H
   have A10 := Aside0.mk A100
   clear A100
   replace H := Option.bind_eq_some_iff.mp H
   obtain ⟨t317, A110, H⟩ := H
   replace H : (if (t316 == t317) = true then ((head_Message_Text.f t302 t305 t306).bind fun t318 => ((postriderref07_Text.f k t307 t310 t311).bind fun t319 => (if t318.toList = t319.toList then ((head_Message_Find.f t302 t305 t306 js7).bind fun t320 => ((slices_Equal_string_string.f k t320 t313).bind fun t323 => (if t323 = true then ((head_Message_Count.f t302 t305 t306 js7).bind fun t324 => (if t324 = (t313.length : Int) then ((postriderlaw07_Of.f k t302 t305 t306).bind fun bt325 => ((postriderref07_Same.f k bt325.1 bt325.2.1 bt325.2.2 t307 t310 t311).bind fun t330 => (if t330 = true then ((postriderlaw07_wakes.f k).bind fun t331 => (some t331)) else (some false)))) else (some false))) else (some false)))) else (some false)))) else (some false)) = some r := H
   have A11 := Aside0.mk A110
   clear A110
   by_cases c12 : (t316 == t317) = true
   ·rw [if_pos c12] at H
    have c12b0 : (t316 == t317) = true := c12
    (try (have c12b1 : decide (t316 = t317) = true := by simpa using c12))
    (try (have c12b2 : (t316 == t317) = true := by simpa using c12))
    clear c12
    replace H := Option.bind_eq_some_iff.mp H
    obtain ⟨t318, A130, H⟩ := H
    replace H : ((postriderref07_Text.f k t307 t310 t311).bind fun t319 => (if t318.toList = t319.toList then ((head_Message_Find.f t302 t305 t306 js7).bind fun t320 => ((slices_Equal_string_string.f k t320 t313).bind fun t323 => (if t323 = true then ((head_Message_Count.f t302 t305 t306 js7).bind fun t324 => (if t324 = (t313.length : Int) then ((postriderlaw07_Of.f k t302 t305 t306).bind fun bt325 => ((postriderref07_Same.f k bt325.1 bt325.2.1 bt325.2.2 t307 t310 t311).bind fun t330 => (if t330 = true then ((postriderlaw07_wakes.f k).bind fun t331 => (some t331)) else (some false)))) else (some false))) else (some false)))) else (some false))) = some r := H
    have A13 := Aside0.mk A130
    clear A130
    replace H := Option.bind_eq_some_iff.mp H
    obtain ⟨t319, A140, H⟩ := H
    replace H : (if t318.toList = t319.toList then ((head_Message_Find.f t302 t305 t306 js7).bind fun t320 => ((slices_Equal_string_string.f k t320 t313).bind fun t323 => (if t323 = true then ((head_Message_Count.f t302 t305 t306 js7).bind fun t324 => (if t324 = (t313.length : Int) then ((postriderlaw07_Of.f k t302 t305 t306).bind fun bt325 => ((postriderref07_Same.f k bt325.1 bt325.2.1 bt325.2.2 t307 t310 t311).bind fun t330 => (if t330 = true then ((postriderlaw07_wakes.f k).bind fun t331 => (some t331)) else (some false)))) else (some false))) else (some false)))) else (some false)) = some r := H
    have A14 := Aside0.mk A140
    clear A140
    by_cases c15 : t318.toList = t319.toList
    ·rw [if_pos c15] at H
     have c15b0 : (t318.toList == t319.toList) = true := beq_iff_eq.mpr c15
     have c15b1 : (t318.toList != t319.toList) = false := bne_eq_false_iff_eq.mpr c15
     clear c15
     replace H := Option.bind_eq_some_iff.mp H
     obtain ⟨t320, A160, H⟩ := H
     replace H : ((slices_Equal_string_string.f k t320 t313).bind fun t323 => (if t323 = true then ((head_Message_Count.f t302 t305 t306 js7).bind fun t324 => (if t324 = (t313.length : Int) then ((postriderlaw07_Of.f k t302 t305 t306).bind fun bt325 => ((postriderref07_Same.f k bt325.1 bt325.2.1 bt325.2.2 t307 t310 t311).bind fun t330 => (if t330 = true then ((postriderlaw07_wakes.f k).bind fun t331 => (some t331)) else (some false)))) else (some false))) else (some false))) = some r := H
     have A16 := Aside0.mk A160
     clear A160
     replace H := Option.bind_eq_some_iff.mp H
     obtain ⟨t323, A170, H⟩ := H
     replace H : (if t323 = true then ((head_Message_Count.f t302 t305 t306 js7).bind fun t324 => (if t324 = (t313.length : Int) then ((postriderlaw07_Of.f k t302 t305 t306).bind fun bt325 => ((postriderref07_Same.f k bt325.1 bt325.2.1 bt325.2.2 t307 t310 t311).bind fun t330 => (if t330 = true then ((postriderlaw07_wakes.f k).bind fun t331 => (some t331)) else (some false)))) else (some false))) else (some false)) = some r := H
     have A17 := Aside0.mk A170
     clear A170
     by_cases c18 : t323 = true
     ·subst c18
      have H1 : ((head_Message_Count.f t302 t305 t306 js7).bind fun t324 => (if t324 = (t313.length : Int) then ((postriderlaw07_Of.f k t302 t305 t306).bind fun bt325 => ((postriderref07_Same.f k bt325.1 bt325.2.1 bt325.2.2 t307 t310 t311).bind fun t330 => (if t330 = true then ((postriderlaw07_wakes.f k).bind fun t331 => (some t331)) else (some false)))) else (some false))) = some r := by rw [if_pos rfl] at H; exact H
      clear H
      have H := H1
      clear H1
      replace H := Option.bind_eq_some_iff.mp H
      obtain ⟨t324, A190, H⟩ := H
      replace H : (if t324 = (t313.length : Int) then ((postriderlaw07_Of.f k t302 t305 t306).bind fun bt325 => ((postriderref07_Same.f k bt325.1 bt325.2.1 bt325.2.2 t307 t310 t311).bind fun t330 => (if t330 = true then ((postriderlaw07_wakes.f k).bind fun t331 => (some t331)) else (some false)))) else (some false)) = some r := H
      have A19 := Aside0.mk A190
      clear A190
      by_cases c20 : t324 = (t313.length : Int)
      ·rw [if_pos c20] at H
       have c20b0 : (t324 == (t313.length : Int)) = true := beq_iff_eq.mpr c20
       have c20b1 : (t324 != (t313.length : Int)) = false := bne_eq_false_iff_eq.mpr c20
       clear c20
       replace H := Option.bind_eq_some_iff.mp H
       obtain ⟨⟨t325, t328, t329⟩, A210, H⟩ := H
       replace H : ((postriderref07_Same.f k t325 t328 t329 t307 t310 t311).bind fun t330 => (if t330 = true then ((postriderlaw07_wakes.f k).bind fun t331 => (some t331)) else (some false))) = some r := H
       have A21 := Aside0.mk A210
       clear A210
       replace H := Option.bind_eq_some_iff.mp H
       obtain ⟨t330, A220, H⟩ := H
       replace H : (if t330 = true then ((postriderlaw07_wakes.f k).bind fun t331 => (some t331)) else (some false)) = some r := H
       have A22 := Aside0.mk A220
       clear A220
       by_cases c23 : t330 = true
       ·subst c23
        have H1 : ((postriderlaw07_wakes.f k).bind fun t331 => (some t331)) = some r := by rw [if_pos rfl] at H; exact H
        clear H
        have H := H1
        clear H1
        replace H := Option.bind_eq_some_iff.mp H
        obtain ⟨t331, A240, H⟩ := H
        replace H : (some t331) = some r := H
        have A24 := Aside0.mk A240
        clear A240
        obtain rfl := Option.some.inj H
        go_enter Tryd.func5, Tryd.ntmps5
        try go_wp2_with (first | ((with_reducible refine gate_dst (N := 2) rfl ?_); (try (refine gate_guard (by rfl) ?_; dsimp only)); refine box_event ?hg (N := 2) ?hd (cs := #[.slice A0_0 l0_0.length c0_0, .string a0_1, .bool a0_2]) (t := 24) ?hr ?_; (case hd => rfl); (case hg => rfl); (case hr => first | (go_simp; done) | (go_simp; rfl)); intro gb301 hg w25 hbox hb; have n0_ := Aside0.mk (below_step (by repeat (first | (with_reducible first | exact HB.out | apply below_alloc | apply pw_below_drewN | apply below_drew1) | exact HB.out)) hb); have n1_ := Aside0.mk (hbox); have n2_ := Aside0.mk ((by rw [hg]; exact (below_size (by repeat (first | (with_reducible first | exact HB.out | apply below_alloc | apply pw_below_drewN | apply below_drew1) | exact HB.out))) : w.heap.size ≤ gb301)); have n3_ := Aside0.mk ((by rw [hg]; exact (below_size (by repeat (first | (with_reducible first | exact HB.out | apply below_alloc | apply pw_below_drewN | apply below_drew1) | exact HB.out))) : w.heap.size ≤ gb301)); clear HB; have HB := n0_; have BK301 := n1_; have GW301 := n2_; have GE301 := n3_; clear n0_ n1_ n2_ n3_; clear hb hbox hg))
        have n0_ := Aside0.mk (blk_drew BK301.out)
        have n1_ := Aside0.mk (below_drew1 HB.out)
        clear BK301
        clear HB
        have BK301 := n0_
        have HB := n1_
        clear n0_ n1_
        refine start_ (n := 9) (S := fun w' => w'.cell? ⟨gb301, 0, none⟩ = some (.slice A0_0 l0_0.length c0_0) ∧ w'.cell? ⟨gb301, 1, none⟩ = some (.string a0_1) ∧ w'.cell? ⟨gb301, 2, none⟩ = some (.bool a0_2)) (ds := [7]) #[false, false, false, false, false, false, false, false, false] (by kernel_rfl) rfl rfl ⟨(blk_cell BK301.out 0).trans rfl, (blk_cell BK301.out 1).trans rfl, (blk_cell BK301.out 2).trans rfl⟩ (fun hHeld => ?_); refine with_tabW postriderlaw07_HeadTells.tab1 postriderlaw07_HeadTells.bits1 (fun HT_ HW_ => ?_)
        generalize w25.drew = w26 at BK301 HB hHeld ⊢
        refine pure_ (i := 2) (N := some 9) (v := ?_) (a' := ?_) #[false, false, true, false, false, false, false, false, false] rfl rfl (any_of HT_.out (by kernel_rfl)) (fun _ _ _ h => h) (Or.inl ⟨by rfl, ?_⟩) ?_ ?_
        rotate_left
        ·intro w'
         go_simp
         with_reducible rfl
        rotate_left
        ·simp only [Act.put, List.setIfInBounds_toArray, List.set_cons_zero, List.set_cons_succ, i64_w, i32_w]
         rfl
        refine pure_ (i := 3) (N := some 10) (v := ?_) (a' := ?_) #[false, false, true, true, false, false, false, false, false] rfl rfl (any_of HT_.out (by kernel_rfl)) (fun _ _ _ h => h) (Or.inl ⟨by rfl, ?_⟩) ?_ ?_
        rotate_left
        ·intro w'
         go_simp
         with_reducible rfl
        rotate_left
        ·simp only [Act.put, List.setIfInBounds_toArray, List.set_cons_zero, List.set_cons_succ, i64_w, i32_w]
         rfl
        refine pure_ (i := 4) (N := some 11) (v := ?_) (a' := ?_) #[false, false, true, true, true, false, false, false, false] rfl rfl (any_of HT_.out (by kernel_rfl)) (fun _ _ _ h => h) (Or.inl ⟨by rfl, ?_⟩) ?_ ?_
        rotate_left
        ·intro w'
         go_simp
         with_reducible rfl
        rotate_left
        ·simp only [Act.put, List.setIfInBounds_toArray, List.set_cons_zero, List.set_cons_succ, i64_w, i32_w]
         rfl
        refine pure_ (i := 5) (N := some 12) (v := ?_) (a' := ?_) #[false, false, true, true, true, true, false, false, false] rfl rfl (any_of HT_.out (by kernel_rfl)) (fun _ _ _ h => h) (Or.inl ⟨by rfl, ?_⟩) ?_ ?_
        rotate_left
        ·intro w'
         go_simp
         with_reducible rfl
        rotate_left
        ·simp only [Act.put, List.setIfInBounds_toArray, List.set_cons_zero, List.set_cons_succ, i64_w, i32_w]
         rfl
        refine pure_ (i := 6) (N := some 13) (v := ?_) (a' := ?_) #[false, false, true, true, true, true, true, false, false] rfl rfl (any_of HT_.out (by kernel_rfl)) (fun _ _ _ h => h) (Or.inl ⟨by rfl, ?_⟩) ?_ ?_
        rotate_left
        ·intro w'
         go_simp
         with_reducible rfl
        rotate_left
        ·simp only [Act.put, List.setIfInBounds_toArray, List.set_cons_zero, List.set_cons_succ, i64_w, i32_w]
         rfl
        refine take_ (i := 0) (N := some 7) (v := ?_) (a' := ?_) #[true, false, true, true, true, true, true, false, false] rfl rfl (take_ofW HT_.out HW_.out (by kernel_rfl)) (fun _ _ _ h => h) (Or.inl ⟨by rfl, ?_⟩) hHeld ?_ ?_
        rotate_left
        ·rintro w' ⟨s0, s1, s2⟩
         go_simp
         with_reducible rfl
        rotate_left
        ·simp only [Act.put, List.setIfInBounds_toArray, List.set_cons_zero, List.set_cons_succ, i64_w, i32_w]
         rfl
        refine one_ (i := 1) (N := some 8) #[true, true, true, true, true, true, true, false, false] rfl rfl (one_of HT_.out (by kernel_rfl)) (by decide) (fun K hK => ?_)
        refine goes_ Tryd.func21 (by kernel_rfl) rfl #[.agg #[.slice A0_0 l0_0.length c0_0, .string a0_1, .bool a0_2]] (by rfl) rfl rfl (by (try simp only [List.map_toArray, List.map_cons, List.map_nil]); first | done | rfl | (simp only [List.length_drop, List.length_take]; rfl)) ?_
        with_reducible refine (postriderlaw07_Few.calls k _ _ l0_0 a0_1 a0_2 t302 t305 t306 _ ?side1 ?side2 A3.out).mono ?_
        (case side1 => repeat (first | exact (Kd.C_below HR0_0.out HB.out) | (with_reducible refine Kd.C_alloc ?_ _) | (with_reducible refine Kd.C_drewN ?_ _) | (with_reducible refine Kd.C_drew ?_)))
        (case side2 => exact HC0_0.out)
        rintro e w27 ⟨v303, rfl, ho0, hb⟩
        refine ⟨_, rfl, ?_⟩
        have n0_ := Aside0.mk (Kd.R_lower ho0 (below_size (by repeat (first | (with_reducible first | exact HB.out | apply below_alloc | apply pw_below_drewN | apply below_drew1 | refine below_set ?_ GE301.out) | exact HB.out))))
        have n1_ := Aside0.mk (blk_below (g := gb301) (o := .cells #[.slice A0_0 l0_0.length c0_0, .string a0_1, .bool a0_2] 24 (0, 0)) (by (with_reducible repeat (first | refine blk_drewN ?_ _ | refine blk_drew ?_ | refine blk_alloc ?_ _)); exact BK301.out) hb)
        have n2_ := Aside0.mk (below_step (by repeat (first | (with_reducible first | exact HB.out | apply below_alloc | apply pw_below_drewN | apply below_drew1 | refine below_set ?_ GE301.out) | exact HB.out)) hb)
        clear BK301
        clear HB
        have HO304 := n0_
        have BK301 := n1_
        have HB := n2_
        clear n0_ n1_ n2_
        (try clear hb)
        (try clear hb2)
        (try clear hk)
        (try clear hi)
        (try clear ho0)
        obtain ⟨Ao28, co28, eo28⟩ := Kd.R_slice HO304.out
        (first | subst eo28 | (injection eo28 with f1_ f2_ f3_; have f4_ := f1_.symm; have f5_ := f3_.symm; clear f1_ f2_ f3_; subst f4_; subst f5_))
        refine hK.out _ _ ⟨(blk_cell BK301.out 0).trans rfl, (blk_cell BK301.out 1).trans rfl, (blk_cell BK301.out 2).trans rfl⟩ (fun hHeld => ?_)
        clear hK K
        refine norm_ (a' := ?_) ?_ ?_
        rotate_left
        ·show Act.put _ (some 8) _ = _
         simp only [Act.put, List.setIfInBounds_toArray, List.set_cons_zero, List.set_cons_succ, i64_w, i32_w]
         rfl
        refine last_ (i := 7) (N := none) #[true, true, true, true, true, true, true, true, false] rfl rfl (one_of HT_.out (by kernel_rfl)) (by decide) (fun K hK => ?_)
        have hs29 : w27.cell? ⟨gb301, 0, none⟩ = some (.slice A0_0 l0_0.length c0_0) := (blk_cell BK301.out 0).trans rfl
        have hfs29 := blk_frozen BK301.out 0
        have hs30 : w27.cell? ⟨gb301, 1, none⟩ = some (.string a0_1) := (blk_cell BK301.out 1).trans rfl
        have hfs30 := blk_frozen BK301.out 1
        have hs31 : w27.cell? ⟨gb301, 2, none⟩ = some (.bool a0_2) := (blk_cell BK301.out 2).trans rfl
        have hfs31 := blk_frozen BK301.out 2
        refine skip_ (w1 := ?_) (by rfl) rfl ?_ ?_
        rotate_left
        ·go_simp
         rfl
        refine hK.out _ _ ?_
        clear hK K
        refine pure_ (i := 8) (N := some 1) (v := ?_) (a' := ?_) #[true, true, true, true, true, true, true, true, true] rfl rfl (any_of HT_.out (by kernel_rfl)) (fun _ _ _ h => h) (Or.inl ⟨by rfl, ?_⟩) ?_ ?_
        rotate_left
        ·intro w'
         go_simp
         with_reducible rfl
        rotate_left
        ·simp only [Act.put, List.setIfInBounds_toArray, List.set_cons_zero, List.set_cons_succ, i64_w, i32_w]
         rfl
        refine done_ (done_of HT_.out (by kernel_rfl)) ?_
        have hcz32_0 : w27.cell? ⟨gb301, 0, none⟩ = some (.slice A0_0 l0_0.length c0_0) := (blk_cell BK301.out 0).trans rfl
        have hcz32_1 : w27.cell? ⟨gb301, 1, none⟩ = some (.string a0_1) := (blk_cell BK301.out 1).trans rfl
        have hcz32_2 : w27.cell? ⟨gb301, 2, none⟩ = some (.bool a0_2) := (blk_cell BK301.out 2).trans rfl
        have hfz32_0 := blk_frozen BK301.out 0
        have hfz32_1 := blk_frozen BK301.out 1
        have hfz32_2 := blk_frozen BK301.out 2
        try go_wp2_with (first | ((with_reducible refine gate_callee (f := 12) rfl ?_); refine goesL_ (some 15) rfl rfl Tryd.func12 (by kernel_rfl) rfl #[.agg #[.slice Ao28 t302.length co28, .string t305, .bool t306]] rfl (by (try simp only [List.map_toArray, List.map_cons, List.map_nil]); first | done | rfl | (simp only [List.length_drop, List.length_take]; rfl)) ?_; (with_reducible refine (postriderlaw07_Of.calls k _ _ t302 t305 t306 t307 t310 t311 _ ?side1 ?side2 A8.out).mono ?_); (case side1 => refine (Kd.R_reads' (e := 41) (base := w.heap.size) (ok := fun k_ => True) (n := t302.length) (c := co28) ?_).2.2; exact (by (with_reducible repeat (first | apply Kd.R_alloc | apply Kd.R_drewN | apply Kd.R_drew)); exact (Kd.R_mono (Kd.R_far (p := ⟨gb301, 2, none⟩) (Kd.R_far (p := ⟨gb301, 1, none⟩) (Kd.R_far (p := ⟨gb301, 0, none⟩) (Kd.R_types HO304.out BK301.out (by decide)) (fun _ hk => hk.2) (.slice Ao28 t302.length co28)) (fun _ hk => hk.2) (.string t305)) (fun _ hk => hk.2) (.bool t306)) (fun _ h_ => h_.1)))); (case side2 => exact (Kd.R_reads' HO304.out).2.1); rintro e w33 ⟨v308, rfl, ho0, hb⟩; refine ⟨_, rfl, ?_⟩; have n0_ := Aside0.mk (Kd.R_below (by (with_reducible repeat (first | apply Kd.R_alloc | apply Kd.R_drewN | apply Kd.R_drew)); exact (Kd.R_mono (Kd.R_far (p := ⟨gb301, 2, none⟩) (Kd.R_far (p := ⟨gb301, 1, none⟩) (Kd.R_far (p := ⟨gb301, 0, none⟩) (Kd.R_types HO304.out BK301.out (by decide)) (fun _ hk => hk.2) (.slice Ao28 t302.length co28)) (fun _ hk => hk.2) (.string t305)) (fun _ hk => hk.2) (.bool t306)) (fun _ h_ => h_.1))) hb); have n1_ := Aside0.mk (Kd.R_lower ho0 (below_size (by repeat (first | (with_reducible first | exact HB.out | apply below_alloc | apply pw_below_drewN | apply below_drew1 | refine below_set ?_ GE301.out) | exact HB.out)))); have n2_ := Aside0.mk (blk_below (g := gb301) (o := .cells #[.slice Ao28 t302.length co28, .string t305, .bool t306] 24 (0, 0)) (by (with_reducible repeat (first | refine blk_drewN ?_ _ | refine blk_drew ?_ | refine blk_alloc ?_ _)); refine blk_put (cs := #[.slice Ao28 t302.length co28, .string t305, .bool a0_2]) ?_ 2 _ rfl; (with_reducible repeat (first | refine blk_drewN ?_ _ | refine blk_drew ?_ | refine blk_alloc ?_ _)); refine blk_put (cs := #[.slice Ao28 t302.length co28, .string a0_1, .bool a0_2]) ?_ 1 _ rfl; (with_reducible repeat (first | refine blk_drewN ?_ _ | refine blk_drew ?_ | refine blk_alloc ?_ _)); refine blk_put (cs := #[.slice A0_0 l0_0.length c0_0, .string a0_1, .bool a0_2]) ?_ 0 _ rfl; (with_reducible repeat (first | refine blk_drewN ?_ _ | refine blk_drew ?_ | refine blk_alloc ?_ _)); exact BK301.out) hb); have n3_ := Aside0.mk (below_step (by repeat (first | (with_reducible first | exact HB.out | apply below_alloc | apply pw_below_drewN | apply below_drew1 | refine below_set ?_ GE301.out) | exact HB.out)) hb); clear HO304; clear BK301; clear HB; have HO304 := n0_; have HO309 := n1_; have BK301 := n2_; have HB := n3_; clear n0_ n1_ n2_ n3_; (try clear hb); (try clear hb2); (try clear hk); (try clear hi); (try clear ho0)) | ((with_reducible refine gate_dst (N := 5) rfl ?_); (try (refine gate_guard (by rfl) ?_; dsimp only)); refine box_event ?hg (N := 5) ?hd (cs := #[.slice none 0 0, .string (⟨#[]⟩ : ByteArray), .bool false]) (t := 30) ?hr ?_; (case hd => rfl); (case hg => rfl); (case hr => first | (go_simp; done) | (go_simp; rfl)); intro gb312 hg w34 hbox hb; have n0_ := Aside0.mk (Kd.R_below (by (with_reducible repeat (first | apply Kd.R_alloc | apply Kd.R_drewN | apply Kd.R_drew)); exact HO304.out) hb); have n1_ := Aside0.mk (Kd.R_below (by (with_reducible repeat (first | apply Kd.R_alloc | apply Kd.R_drewN | apply Kd.R_drew)); exact HO309.out) hb); have n2_ := Aside0.mk (blk_below (g := gb301) (o := .cells #[.slice Ao28 t302.length co28, .string t305, .bool t306] 24 (0, 0)) (by (with_reducible repeat (first | refine blk_drewN ?_ _ | refine blk_drew ?_ | refine blk_alloc ?_ _)); exact BK301.out) hb); have n3_ := Aside0.mk (below_step (by repeat (first | (with_reducible first | exact HB.out | apply below_alloc | apply pw_below_drewN | apply below_drew1 | refine below_set ?_ GE301.out) | exact HB.out)) hb); have n4_ := Aside0.mk (hbox); have n5_ := Aside0.mk ((by rw [hg]; exact (below_size (by repeat (first | (with_reducible first | exact HB.out | apply below_alloc | apply pw_below_drewN | apply below_drew1 | refine below_set ?_ GE301.out) | exact HB.out))) : w.heap.size ≤ gb312)); have n6_ := Aside0.mk ((by rw [hg]; exact (below_size (by repeat (first | (with_reducible first | exact HB.out | apply below_alloc | apply pw_below_drewN | apply below_drew1 | refine below_set ?_ GE301.out) | exact HB.out))) : w.heap.size ≤ gb312)); have n7_ := Aside0.mk ((by rw [hg]; exact Nat.ne_of_lt (blk_lt (g := gb301) (o := .cells #[.slice Ao28 t302.length co28, .string t305, .bool t306] 24 (0, 0)) (by (with_reducible repeat (first | refine blk_drewN ?_ _ | refine blk_drew ?_ | refine blk_alloc ?_ _)); exact BK301.out)) : gb301 ≠ gb312)); have n8_ := Aside0.mk ((by rw [hg]; exact Nat.ne_of_gt (blk_lt (g := gb301) (o := .cells #[.slice Ao28 t302.length co28, .string t305, .bool t306] 24 (0, 0)) (by (with_reducible repeat (first | refine blk_drewN ?_ _ | refine blk_drew ?_ | refine blk_alloc ?_ _)); exact BK301.out)) : gb312 ≠ gb301)); clear HO304; clear HO309; clear BK301; clear HB; have HO304 := n0_; have HO309 := n1_; have BK301 := n2_; have HB := n3_; have BK312 := n4_; have GW312 := n5_; have GE312 := n6_; have NB301_312 := n7_; have NB312_301 := n8_; clear n0_ n1_ n2_ n3_ n4_ n5_ n6_ n7_ n8_; clear hb hbox hg; obtain ⟨Ao35, co35, eo35⟩ := Kd.R_slice HO309.out; subst eo35; have hnb36 := NB312_301.out; have hnc36 := NB301_312.out; have hcz37_0 : w34.cell? ⟨gb312, 0, none⟩ = some (.slice none 0 0) := (blk_cell BK312.out 0).trans rfl; have hcz37_1 : w34.cell? ⟨gb312, 1, none⟩ = some (.string (⟨#[]⟩ : ByteArray)) := (blk_cell BK312.out 1).trans rfl; have hcz37_2 : w34.cell? ⟨gb312, 2, none⟩ = some (.bool false) := (blk_cell BK312.out 2).trans rfl; have hfz37_0 := blk_frozen BK312.out 0; have hfz37_1 := blk_frozen BK312.out 1; have hfz37_2 := blk_frozen BK312.out 2) | ((with_reducible refine gate_callee (f := 22) rfl ?_); refine goesL_ (some 18) rfl rfl Tryd.func22 (by kernel_rfl) rfl #[.agg #[.slice Ao35 t307.length co35, .string t310, .bool t311], .string js7] rfl (by (try simp only [List.map_toArray, List.map_cons, List.map_nil]); first | done | rfl | (simp only [List.length_drop, List.length_take]; rfl)) ?_; (with_reducible refine (postriderref07_Find.calls k _ _ t307 t310 t311 js7 t313 _ ?side1 ?side2 A9.out).mono ?_); (case side1 => refine (Kd.R_reads' (e := 60) (base := w.heap.size) (ok := fun k_ => True) (n := t307.length) (c := co35) ?_).2.2; exact (by (with_reducible repeat (first | apply Kd.R_alloc | apply Kd.R_drewN | apply Kd.R_drew)); exact (Kd.R_mono (Kd.R_far (p := ⟨gb312, 2, none⟩) (Kd.R_far (p := ⟨gb312, 1, none⟩) (Kd.R_far (p := ⟨gb312, 0, none⟩) (Kd.R_types HO309.out BK312.out (by decide)) (fun _ hk => hk.2) (.slice Ao35 t307.length co35)) (fun _ hk => hk.2) (.string t310)) (fun _ hk => hk.2) (.bool t311)) (fun _ h_ => h_.1)))); (case side2 => exact (Kd.R_reads' HO309.out).2.1); rintro e w38 ⟨v314, rfl, ho0, hb⟩; refine ⟨_, rfl, ?_⟩; have n0_ := Aside0.mk (Kd.R_below (by (with_reducible repeat (first | apply Kd.R_alloc | apply Kd.R_drewN | apply Kd.R_drew)); exact (Kd.R_mono (Kd.R_far (p := ⟨gb312, 2, none⟩) (Kd.R_far (p := ⟨gb312, 1, none⟩) (Kd.R_far (p := ⟨gb312, 0, none⟩) (Kd.R_types HO304.out BK312.out (by decide)) (fun _ hk => hk.2) (.slice Ao35 t307.length co35)) (fun _ hk => hk.2) (.string t310)) (fun _ hk => hk.2) (.bool t311)) (fun _ h_ => h_.1))) hb); have n1_ := Aside0.mk (Kd.R_below (by (with_reducible repeat (first | apply Kd.R_alloc | apply Kd.R_drewN | apply Kd.R_drew)); exact (Kd.R_mono (Kd.R_far (p := ⟨gb312, 2, none⟩) (Kd.R_far (p := ⟨gb312, 1, none⟩) (Kd.R_far (p := ⟨gb312, 0, none⟩) (Kd.R_types HO309.out BK312.out (by decide)) (fun _ hk => hk.2) (.slice Ao35 t307.length co35)) (fun _ hk => hk.2) (.string t310)) (fun _ hk => hk.2) (.bool t311)) (fun _ h_ => h_.1))) hb); have n2_ := Aside0.mk (Kd.R_lower ho0 (below_size (by repeat (first | (with_reducible first | exact HB.out | apply below_alloc | apply pw_below_drewN | apply below_drew1 | refine below_set ?_ GE301.out | refine below_set ?_ GE312.out) | exact HB.out)))); have n3_ := Aside0.mk (blk_below (g := gb301) (o := .cells #[.slice Ao28 t302.length co28, .string t305, .bool t306] 24 (0, 0)) (by (with_reducible repeat (first | refine blk_drewN ?_ _ | refine blk_drew ?_ | refine blk_alloc ?_ _)); refine blk_far ?_ NB301_312.out _; (with_reducible repeat (first | refine blk_drewN ?_ _ | refine blk_drew ?_ | refine blk_alloc ?_ _)); refine blk_far ?_ NB301_312.out _; (with_reducible repeat (first | refine blk_drewN ?_ _ | refine blk_drew ?_ | refine blk_alloc ?_ _)); refine blk_far ?_ NB301_312.out _; (with_reducible repeat (first | refine blk_drewN ?_ _ | refine blk_drew ?_ | refine blk_alloc ?_ _)); exact BK301.out) hb); have n4_ := Aside0.mk (blk_below (g := gb312) (o := .cells #[.slice Ao35 t307.length co35, .string t310, .bool t311] 30 (0, 0)) (by (with_reducible repeat (first | refine blk_drewN ?_ _ | refine blk_drew ?_ | refine blk_alloc ?_ _)); refine blk_put (cs := #[.slice Ao35 t307.length co35, .string t310, .bool false]) ?_ 2 _ rfl; (with_reducible repeat (first | refine blk_drewN ?_ _ | refine blk_drew ?_ | refine blk_alloc ?_ _)); refine blk_put (cs := #[.slice Ao35 t307.length co35, .string (⟨#[]⟩ : ByteArray), .bool false]) ?_ 1 _ rfl; (with_reducible repeat (first | refine blk_drewN ?_ _ | refine blk_drew ?_ | refine blk_alloc ?_ _)); refine blk_put (cs := #[.slice none 0 0, .string (⟨#[]⟩ : ByteArray), .bool false]) ?_ 0 _ rfl; (with_reducible repeat (first | refine blk_drewN ?_ _ | refine blk_drew ?_ | refine blk_alloc ?_ _)); exact BK312.out) hb); have n5_ := Aside0.mk (below_step (by repeat (first | (with_reducible first | exact HB.out | apply below_alloc | apply pw_below_drewN | apply below_drew1 | refine below_set ?_ GE301.out | refine below_set ?_ GE312.out) | exact HB.out)) hb); clear HO304; clear HO309; clear BK301; clear BK312; clear HB; have HO304 := n0_; have HO309 := n1_; have HO315 := n2_; have BK301 := n3_; have BK312 := n4_; have HB := n5_; clear n0_ n1_ n2_ n3_ n4_ n5_; (try clear hb); (try clear hb2); (try clear hk); (try clear hi); (try clear ho0)))
        have n0_ := Aside0.mk (Kd.R_drew HO304.out)
        have n1_ := Aside0.mk (Kd.R_drew HO309.out)
        have n2_ := Aside0.mk (Kd.R_drew HO315.out)
        have n3_ := Aside0.mk (blk_drew BK301.out)
        have n4_ := Aside0.mk (blk_drew BK312.out)
        have n5_ := Aside0.mk (below_drew1 HB.out)
        clear HO304
        clear HO309
        clear HO315
        clear BK301
        clear BK312
        clear HB
        have HO304 := n0_
        have HO309 := n1_
        have HO315 := n2_
        have BK301 := n3_
        have BK312 := n4_
        have HB := n5_
        clear n0_ n1_ n2_ n3_ n4_ n5_
        refine start_ (n := 37) (S := fun w' => w'.cell? ⟨gb301, 0, none⟩ = some (.slice Ao28 t302.length co28) ∧ w'.cell? ⟨gb301, 1, none⟩ = some (.string t305) ∧ w'.cell? ⟨gb301, 2, none⟩ = some (.bool t306) ∧ w'.cell? ⟨gb312, 0, none⟩ = some (.slice Ao35 t307.length co35) ∧ w'.cell? ⟨gb312, 1, none⟩ = some (.string t310) ∧ w'.cell? ⟨gb312, 2, none⟩ = some (.bool t311)) (ds := []) #[false, false, false, false, false, false, false, false, false, false, false, false, false, false, false, false, false, false, false, false, false, false, false, false, false, false, false, false, false, false, false, false, false, false, false, false, false] (by kernel_rfl) rfl rfl ⟨(blk_cell BK301.out 0).trans rfl, (blk_cell BK301.out 1).trans rfl, (blk_cell BK301.out 2).trans rfl, (blk_cell BK312.out 0).trans rfl, (blk_cell BK312.out 1).trans rfl, (blk_cell BK312.out 2).trans rfl⟩ (fun hHeld => ?_); refine with_tabW postriderlaw07_HeadTells.tab4 postriderlaw07_HeadTells.bits4 (fun HT_ HW_ => ?_)
        generalize w38.drew = w39 at HO304 HO309 HO315 BK301 BK312 HB hHeld ⊢
        refine take_ (i := 0) (N := some 19) (v := ?_) (a' := ?_) #[true, false, false, false, false, false, false, false, false, false, false, false, false, false, false, false, false, false, false, false, false, false, false, false, false, false, false, false, false, false, false, false, false, false, false, false, false] rfl rfl (take_ofW HT_.out HW_.out (by kernel_rfl)) (fun _ _ _ h => h) (Or.inl ⟨by rfl, ?_⟩) hHeld ?_ ?_
        rotate_left
        ·rintro w' ⟨s0, s1, s2, s3, s4, s5⟩
         go_simp
         with_reducible rfl
        rotate_left
        ·simp only [Act.put, List.setIfInBounds_toArray, List.set_cons_zero, List.set_cons_succ, i64_w, i32_w]
         rfl
        refine take_ (i := 2) (N := some 21) (v := ?_) (a' := ?_) #[true, false, true, false, false, false, false, false, false, false, false, false, false, false, false, false, false, false, false, false, false, false, false, false, false, false, false, false, false, false, false, false, false, false, false, false, false] rfl rfl (take_ofW HT_.out HW_.out (by kernel_rfl)) (fun _ _ _ h => h) (Or.inl ⟨by rfl, ?_⟩) hHeld ?_ ?_
        rotate_left
        ·rintro w' ⟨s0, s1, s2, s3, s4, s5⟩
         go_simp
         with_reducible rfl
        rotate_left
        ·simp only [Act.put, List.setIfInBounds_toArray, List.set_cons_zero, List.set_cons_succ, i64_w, i32_w]
         rfl
        refine one_ (i := 1) (N := some 20) #[true, true, true, false, false, false, false, false, false, false, false, false, false, false, false, false, false, false, false, false, false, false, false, false, false, false, false, false, false, false, false, false, false, false, false, false, false] rfl rfl (one_of HT_.out (by kernel_rfl)) (by decide) (fun K hK => ?_)
        refine goes_ Tryd.func23 (by kernel_rfl) rfl #[.agg #[.slice Ao28 t302.length co28, .string t305, .bool t306]] (by rfl) rfl rfl (by (try simp only [List.map_toArray, List.map_cons, List.map_nil]); first | done | rfl | (simp only [List.length_drop, List.length_take]; rfl)) ?_
        with_reducible refine (head_Message_May.calls k _ _ t302 t305 t306 t316 _ ?side1 ?side2 ?side3 A10.out).mono ?_
        (case side1 => repeat (first | exact (Kd.R_reads' HO304.out).2.2 | (with_reducible refine Kd.C_alloc ?_ _) | (with_reducible refine Kd.C_drewN ?_ _) | (with_reducible refine Kd.C_drew ?_)))
        (case side2 => exact (Kd.R_reads' HO304.out).2.1)
        (case side3 => exact Glob.below HG.out (by repeat (first | (with_reducible first | exact HB.out | apply below_alloc | apply pw_below_drewN | apply below_drew1 | refine below_set ?_ GE301.out | refine below_set ?_ GE312.out) | exact HB.out)))
        rintro e w40 ⟨rfl, hb⟩
        refine ⟨_, rfl, ?_⟩
        have n0_ := Aside0.mk (Kd.R_below (by (with_reducible repeat (first | apply Kd.R_alloc | apply Kd.R_drewN | apply Kd.R_drew)); exact HO304.out) hb)
        have n1_ := Aside0.mk (Kd.R_below (by (with_reducible repeat (first | apply Kd.R_alloc | apply Kd.R_drewN | apply Kd.R_drew)); exact HO309.out) hb)
        have n2_ := Aside0.mk (Kd.R_below (by (with_reducible repeat (first | apply Kd.R_alloc | apply Kd.R_drewN | apply Kd.R_drew)); exact HO315.out) hb)
        have n3_ := Aside0.mk (blk_below (g := gb301) (o := .cells #[.slice Ao28 t302.length co28, .string t305, .bool t306] 24 (0, 0)) (by (with_reducible repeat (first | refine blk_drewN ?_ _ | refine blk_drew ?_ | refine blk_alloc ?_ _)); exact BK301.out) hb)
        have n4_ := Aside0.mk (blk_below (g := gb312) (o := .cells #[.slice Ao35 t307.length co35, .string t310, .bool t311] 30 (0, 0)) (by (with_reducible repeat (first | refine blk_drewN ?_ _ | refine blk_drew ?_ | refine blk_alloc ?_ _)); exact BK312.out) hb)
        have n5_ := Aside0.mk (below_step (by repeat (first | (with_reducible first | exact HB.out | apply below_alloc | apply pw_below_drewN | apply below_drew1 | refine below_set ?_ GE301.out | refine below_set ?_ GE312.out) | exact HB.out)) hb)
        clear HO304
        clear HO309
        clear HO315
        clear BK301
        clear BK312
        clear HB
        have HO304 := n0_
        have HO309 := n1_
        have HO315 := n2_
        have BK301 := n3_
        have BK312 := n4_
        have HB := n5_
        clear n0_ n1_ n2_ n3_ n4_ n5_
        (try clear hb)
        (try clear hb2)
        (try clear hk)
        (try clear hi)
        refine hK.out _ _ ⟨(blk_cell BK301.out 0).trans rfl, (blk_cell BK301.out 1).trans rfl, (blk_cell BK301.out 2).trans rfl, (blk_cell BK312.out 0).trans rfl, (blk_cell BK312.out 1).trans rfl, (blk_cell BK312.out 2).trans rfl⟩ (fun hHeld => ?_)
        clear hK K
        refine norm_ (a' := ?_) ?_ ?_
        rotate_left
        ·show Act.put _ (some 20) _ = _
         simp only [Act.put, List.setIfInBounds_toArray, List.set_cons_zero, List.set_cons_succ, i64_w, i32_w]
         rfl
        refine one_ (i := 3) (N := some 22) #[true, true, true, true, false, false, false, false, false, false, false, false, false, false, false, false, false, false, false, false, false, false, false, false, false, false, false, false, false, false, false, false, false, false, false, false, false] rfl rfl (one_of HT_.out (by kernel_rfl)) (by decide) (fun K hK => ?_)
        refine goes_ Tryd.func24 (by kernel_rfl) rfl #[.agg #[.slice Ao35 t307.length co35, .string t310, .bool t311]] (by rfl) rfl rfl (by (try simp only [List.map_toArray, List.map_cons, List.map_nil]); first | done | rfl | (simp only [List.length_drop, List.length_take]; rfl)) ?_
        with_reducible refine (postriderref07_May.calls k _ _ t307 t310 t311 t317 _ ?side1 ?side2 A11.out).mono ?_
        (case side1 => repeat (first | exact (Kd.R_reads' HO309.out).2.2 | (with_reducible refine Kd.C_alloc ?_ _) | (with_reducible refine Kd.C_drewN ?_ _) | (with_reducible refine Kd.C_drew ?_)))
        (case side2 => exact (Kd.R_reads' HO309.out).2.1)
        rintro e w41 ⟨rfl, hb⟩
        refine ⟨_, rfl, ?_⟩
        have n0_ := Aside0.mk (Kd.R_below (by (with_reducible repeat (first | apply Kd.R_alloc | apply Kd.R_drewN | apply Kd.R_drew)); exact HO304.out) hb)
        have n1_ := Aside0.mk (Kd.R_below (by (with_reducible repeat (first | apply Kd.R_alloc | apply Kd.R_drewN | apply Kd.R_drew)); exact HO309.out) hb)
        have n2_ := Aside0.mk (Kd.R_below (by (with_reducible repeat (first | apply Kd.R_alloc | apply Kd.R_drewN | apply Kd.R_drew)); exact HO315.out) hb)
        have n3_ := Aside0.mk (blk_below (g := gb301) (o := .cells #[.slice Ao28 t302.length co28, .string t305, .bool t306] 24 (0, 0)) (by (with_reducible repeat (first | refine blk_drewN ?_ _ | refine blk_drew ?_ | refine blk_alloc ?_ _)); exact BK301.out) hb)
        have n4_ := Aside0.mk (blk_below (g := gb312) (o := .cells #[.slice Ao35 t307.length co35, .string t310, .bool t311] 30 (0, 0)) (by (with_reducible repeat (first | refine blk_drewN ?_ _ | refine blk_drew ?_ | refine blk_alloc ?_ _)); exact BK312.out) hb)
        have n5_ := Aside0.mk (below_step (by repeat (first | (with_reducible first | exact HB.out | apply below_alloc | apply pw_below_drewN | apply below_drew1 | refine below_set ?_ GE301.out | refine below_set ?_ GE312.out) | exact HB.out)) hb)
        clear HO304
        clear HO309
        clear HO315
        clear BK301
        clear BK312
        clear HB
        have HO304 := n0_
        have HO309 := n1_
        have HO315 := n2_
        have BK301 := n3_
        have BK312 := n4_
        have HB := n5_
        clear n0_ n1_ n2_ n3_ n4_ n5_
        (try clear hb)
        (try clear hb2)
        (try clear hk)
        (try clear hi)
        refine hK.out _ _ ⟨(blk_cell BK301.out 0).trans rfl, (blk_cell BK301.out 1).trans rfl, (blk_cell BK301.out 2).trans rfl, (blk_cell BK312.out 0).trans rfl, (blk_cell BK312.out 1).trans rfl, (blk_cell BK312.out 2).trans rfl⟩ (fun hHeld => ?_)
        clear hK K
        refine norm_ (a' := ?_) ?_ ?_
        rotate_left
        ·show Act.put _ (some 22) _ = _
         simp only [Act.put, List.setIfInBounds_toArray, List.set_cons_zero, List.set_cons_succ, i64_w, i32_w]
         rfl
        refine pure_ (i := 4) (N := some 23) (v := ?_) (a' := ?_) #[true, true, true, true, true, false, false, false, false, false, false, false, false, false, false, false, false, false, false, false, false, false, false, false, false, false, false, false, false, false, false, false, false, false, false, false, false] rfl rfl (any_of HT_.out (by kernel_rfl)) (fun _ _ _ h => h) (Or.inl ⟨by rfl, ?_⟩) ?_ ?_
        rotate_left
        ·intro w'
         go_simp
         with_reducible rfl
        rotate_left
        ·simp only [Act.put, List.setIfInBounds_toArray, List.set_cons_zero, List.set_cons_succ, i64_w, i32_w]
         rfl
        refine pure_ (i := 5) (N := some 24) (v := ?_) (a' := ?_) #[true, true, true, true, true, true, false, false, false, false, false, false, false, false, false, false, false, false, false, false, false, false, false, false, false, false, false, false, false, false, false, false, false, false, false, false, false] rfl rfl (any_of HT_.out (by kernel_rfl)) (fun _ _ _ h => h) (Or.inl ⟨by rfl, ?_⟩) ?_ ?_
        rotate_left
        ·intro w'
         go_simp
         with_reducible rfl
        rotate_left
        ·simp only [Act.put, List.setIfInBounds_toArray, List.set_cons_zero, List.set_cons_succ, i64_w, i32_w]
         rfl
        refine take_ (i := 6) (N := some 25) (v := ?_) (a' := ?_) #[true, true, true, true, true, true, true, false, false, false, false, false, false, false, false, false, false, false, false, false, false, false, false, false, false, false, false, false, false, false, false, false, false, false, false, false, false] rfl rfl (take_ofW HT_.out HW_.out (by kernel_rfl)) (fun _ _ _ h => h) (Or.inl ⟨by rfl, ?_⟩) hHeld ?_ ?_
        rotate_left
        ·rintro w' ⟨s0, s1, s2, s3, s4, s5⟩
         go_simp
         with_reducible rfl
        rotate_left
        ·simp only [Act.put, List.setIfInBounds_toArray, List.set_cons_zero, List.set_cons_succ, i64_w, i32_w]
         rfl
        refine take_ (i := 8) (N := some 27) (v := ?_) (a' := ?_) #[true, true, true, true, true, true, true, false, true, false, false, false, false, false, false, false, false, false, false, false, false, false, false, false, false, false, false, false, false, false, false, false, false, false, false, false, false] rfl rfl (take_ofW HT_.out HW_.out (by kernel_rfl)) (fun _ _ _ h => h) (Or.inl ⟨by rfl, ?_⟩) hHeld ?_ ?_
        rotate_left
        ·rintro w' ⟨s0, s1, s2, s3, s4, s5⟩
         go_simp
         with_reducible rfl
        rotate_left
        ·simp only [Act.put, List.setIfInBounds_toArray, List.set_cons_zero, List.set_cons_succ, i64_w, i32_w]
         rfl
        refine one_ (i := 7) (N := some 26) #[true, true, true, true, true, true, true, true, true, false, false, false, false, false, false, false, false, false, false, false, false, false, false, false, false, false, false, false, false, false, false, false, false, false, false, false, false] rfl rfl (one_of HT_.out (by kernel_rfl)) (by decide) (fun K hK => ?_)
        refine goes_ Tryd.func25 (by kernel_rfl) rfl #[.agg #[.slice Ao28 t302.length co28, .string t305, .bool t306]] (by rfl) rfl rfl (by (try simp only [List.map_toArray, List.map_cons, List.map_nil]); first | done | rfl | (simp only [List.length_drop, List.length_take]; rfl)) ?_
        with_reducible refine (head_Message_Text.calls _ _ t302 t305 t306 t318 _ ?side1 ?side2 A13.out).mono ?_
        (case side1 => repeat (first | exact (Kd.R_reads' HO304.out).2.2 | (with_reducible refine Kd.C_alloc ?_ _) | (with_reducible refine Kd.C_drewN ?_ _) | (with_reducible refine Kd.C_drew ?_)))
        (case side2 => exact (Kd.R_reads' HO304.out).2.1)
        rintro e w42 ⟨rfl, hb⟩
        refine ⟨_, rfl, ?_⟩
        have n0_ := Aside0.mk (Kd.R_below (by (with_reducible repeat (first | apply Kd.R_alloc | apply Kd.R_drewN | apply Kd.R_drew)); exact HO304.out) hb)
        have n1_ := Aside0.mk (Kd.R_below (by (with_reducible repeat (first | apply Kd.R_alloc | apply Kd.R_drewN | apply Kd.R_drew)); exact HO309.out) hb)
        have n2_ := Aside0.mk (Kd.R_below (by (with_reducible repeat (first | apply Kd.R_alloc | apply Kd.R_drewN | apply Kd.R_drew)); exact HO315.out) hb)
        have n3_ := Aside0.mk (blk_below (g := gb301) (o := .cells #[.slice Ao28 t302.length co28, .string t305, .bool t306] 24 (0, 0)) (by (with_reducible repeat (first | refine blk_drewN ?_ _ | refine blk_drew ?_ | refine blk_alloc ?_ _)); exact BK301.out) hb)
        have n4_ := Aside0.mk (blk_below (g := gb312) (o := .cells #[.slice Ao35 t307.length co35, .string t310, .bool t311] 30 (0, 0)) (by (with_reducible repeat (first | refine blk_drewN ?_ _ | refine blk_drew ?_ | refine blk_alloc ?_ _)); exact BK312.out) hb)
        have n5_ := Aside0.mk (below_step (by repeat (first | (with_reducible first | exact HB.out | apply below_alloc | apply pw_below_drewN | apply below_drew1 | refine below_set ?_ GE301.out | refine below_set ?_ GE312.out) | exact HB.out)) hb)
        clear HO304
        clear HO309
        clear HO315
        clear BK301
        clear BK312
        clear HB
        have HO304 := n0_
        have HO309 := n1_
        have HO315 := n2_
        have BK301 := n3_
        have BK312 := n4_
        have HB := n5_
        clear n0_ n1_ n2_ n3_ n4_ n5_
        (try clear hb)
        (try clear hb2)
        (try clear hk)
        (try clear hi)
        refine hK.out _ _ ⟨(blk_cell BK301.out 0).trans rfl, (blk_cell BK301.out 1).trans rfl, (blk_cell BK301.out 2).trans rfl, (blk_cell BK312.out 0).trans rfl, (blk_cell BK312.out 1).trans rfl, (blk_cell BK312.out 2).trans rfl⟩ (fun hHeld => ?_)
        clear hK K
        refine norm_ (a' := ?_) ?_ ?_
        rotate_left
        ·show Act.put _ (some 26) _ = _
         simp only [Act.put, List.setIfInBounds_toArray, List.set_cons_zero, List.set_cons_succ, i64_w, i32_w]
         rfl
        refine one_ (i := 9) (N := some 28) #[true, true, true, true, true, true, true, true, true, true, false, false, false, false, false, false, false, false, false, false, false, false, false, false, false, false, false, false, false, false, false, false, false, false, false, false, false] rfl rfl (one_of HT_.out (by kernel_rfl)) (by decide) (fun K hK => ?_)
        refine goes_ Tryd.func26 (by kernel_rfl) rfl #[.agg #[.slice Ao35 t307.length co35, .string t310, .bool t311]] (by rfl) rfl rfl (by (try simp only [List.map_toArray, List.map_cons, List.map_nil]); first | done | rfl | (simp only [List.length_drop, List.length_take]; rfl)) ?_
        with_reducible refine (postriderref07_Text.calls k _ _ t307 t310 t311 t319 _ ?side1 ?side2 A14.out).mono ?_
        (case side1 => repeat (first | exact (Kd.R_reads' HO309.out).2.2 | (with_reducible refine Kd.C_alloc ?_ _) | (with_reducible refine Kd.C_drewN ?_ _) | (with_reducible refine Kd.C_drew ?_)))
        (case side2 => exact (Kd.R_reads' HO309.out).2.1)
        rintro e w43 ⟨rfl, hb⟩
        refine ⟨_, rfl, ?_⟩
        have n0_ := Aside0.mk (Kd.R_below (by (with_reducible repeat (first | apply Kd.R_alloc | apply Kd.R_drewN | apply Kd.R_drew)); exact HO304.out) hb)
        have n1_ := Aside0.mk (Kd.R_below (by (with_reducible repeat (first | apply Kd.R_alloc | apply Kd.R_drewN | apply Kd.R_drew)); exact HO309.out) hb)
        have n2_ := Aside0.mk (Kd.R_below (by (with_reducible repeat (first | apply Kd.R_alloc | apply Kd.R_drewN | apply Kd.R_drew)); exact HO315.out) hb)
        have n3_ := Aside0.mk (blk_below (g := gb301) (o := .cells #[.slice Ao28 t302.length co28, .string t305, .bool t306] 24 (0, 0)) (by (with_reducible repeat (first | refine blk_drewN ?_ _ | refine blk_drew ?_ | refine blk_alloc ?_ _)); exact BK301.out) hb)
        have n4_ := Aside0.mk (blk_below (g := gb312) (o := .cells #[.slice Ao35 t307.length co35, .string t310, .bool t311] 30 (0, 0)) (by (with_reducible repeat (first | refine blk_drewN ?_ _ | refine blk_drew ?_ | refine blk_alloc ?_ _)); exact BK312.out) hb)
        have n5_ := Aside0.mk (below_step (by repeat (first | (with_reducible first | exact HB.out | apply below_alloc | apply pw_below_drewN | apply below_drew1 | refine below_set ?_ GE301.out | refine below_set ?_ GE312.out) | exact HB.out)) hb)
        clear HO304
        clear HO309
        clear HO315
        clear BK301
        clear BK312
        clear HB
        have HO304 := n0_
        have HO309 := n1_
        have HO315 := n2_
        have BK301 := n3_
        have BK312 := n4_
        have HB := n5_
        clear n0_ n1_ n2_ n3_ n4_ n5_
        (try clear hb)
        (try clear hb2)
        (try clear hk)
        (try clear hi)
        refine hK.out _ _ ⟨(blk_cell BK301.out 0).trans rfl, (blk_cell BK301.out 1).trans rfl, (blk_cell BK301.out 2).trans rfl, (blk_cell BK312.out 0).trans rfl, (blk_cell BK312.out 1).trans rfl, (blk_cell BK312.out 2).trans rfl⟩ (fun hHeld => ?_)
        clear hK K
        refine norm_ (a' := ?_) ?_ ?_
        rotate_left
        ·show Act.put _ (some 28) _ = _
         simp only [Act.put, List.setIfInBounds_toArray, List.set_cons_zero, List.set_cons_succ, i64_w, i32_w]
         rfl
        refine pure_ (i := 10) (N := some 29) (v := ?_) (a' := ?_) #[true, true, true, true, true, true, true, true, true, true, true, false, false, false, false, false, false, false, false, false, false, false, false, false, false, false, false, false, false, false, false, false, false, false, false, false, false] rfl rfl (any_of HT_.out (by kernel_rfl)) (fun _ _ _ h => h) (Or.inl ⟨by rfl, ?_⟩) ?_ ?_
        rotate_left
        ·intro w'
         go_simp
         with_reducible rfl
        rotate_left
        ·simp only [Act.put, List.setIfInBounds_toArray, List.set_cons_zero, List.set_cons_succ, i64_w, i32_w]
         rfl
        refine pure_ (i := 11) (N := some 30) (v := ?_) (a' := ?_) #[true, true, true, true, true, true, true, true, true, true, true, true, false, false, false, false, false, false, false, false, false, false, false, false, false, false, false, false, false, false, false, false, false, false, false, false, false] rfl rfl (any_of HT_.out (by kernel_rfl)) (fun _ _ _ h => h) (Or.inl ⟨by rfl, ?_⟩) ?_ ?_
        rotate_left
        ·intro w'
         go_simp
         with_reducible rfl
        rotate_left
        ·simp only [Act.put, List.setIfInBounds_toArray, List.set_cons_zero, List.set_cons_succ, i64_w, i32_w]
         rfl
        refine pure_ (i := 12) (N := some 31) (v := ?_) (a' := ?_) #[true, true, true, true, true, true, true, true, true, true, true, true, true, false, false, false, false, false, false, false, false, false, false, false, false, false, false, false, false, false, false, false, false, false, false, false, false] rfl rfl (any_of HT_.out (by kernel_rfl)) (fun _ _ _ h => h) (Or.inl ⟨by rfl, ?_⟩) ?_ ?_
        rotate_left
        ·intro w'
         go_simp
         with_reducible rfl
        rotate_left
        ·simp only [Act.put, List.setIfInBounds_toArray, List.set_cons_zero, List.set_cons_succ, i64_w, i32_w]
         rfl
        refine pure_ (i := 14) (N := some 33) (v := ?_) (a' := ?_) #[true, true, true, true, true, true, true, true, true, true, true, true, true, false, true, false, false, false, false, false, false, false, false, false, false, false, false, false, false, false, false, false, false, false, false, false, false] rfl rfl (any_of HT_.out (by kernel_rfl)) (fun _ _ _ h => h) (Or.inl ⟨by rfl, ?_⟩) ?_ ?_
        rotate_left
        ·intro w'
         go_simp
         with_reducible rfl
        rotate_left
        ·simp only [Act.put, List.setIfInBounds_toArray, List.set_cons_zero, List.set_cons_succ, i64_w, i32_w]
         rfl
        refine pure_ (i := 16) (N := some 35) (v := ?_) (a' := ?_) #[true, true, true, true, true, true, true, true, true, true, true, true, true, false, true, false, true, false, false, false, false, false, false, false, false, false, false, false, false, false, false, false, false, false, false, false, false] rfl rfl (any_of HT_.out (by kernel_rfl)) (fun _ _ _ h => h) (Or.inl ⟨by rfl, ?_⟩) ?_ ?_
        rotate_left
        ·intro w'
         go_simp
         with_reducible rfl
        rotate_left
        ·simp only [Act.put, List.setIfInBounds_toArray, List.set_cons_zero, List.set_cons_succ, i64_w, i32_w]
         rfl
        refine take_ (i := 13) (N := some 32) (v := ?_) (a' := ?_) #[true, true, true, true, true, true, true, true, true, true, true, true, true, true, true, false, true, false, false, false, false, false, false, false, false, false, false, false, false, false, false, false, false, false, false, false, false] rfl rfl (take_ofW HT_.out HW_.out (by kernel_rfl)) (fun _ _ _ h => h) (Or.inl ⟨by rfl, ?_⟩) hHeld ?_ ?_
        rotate_left
        ·rintro w' ⟨s0, s1, s2, s3, s4, s5⟩
         go_simp
         with_reducible rfl
        rotate_left
        ·simp only [Act.put, List.setIfInBounds_toArray, List.set_cons_zero, List.set_cons_succ, i64_w, i32_w]
         rfl
        refine one_ (i := 15) (N := some 34) #[true, true, true, true, true, true, true, true, true, true, true, true, true, true, true, true, true, false, false, false, false, false, false, false, false, false, false, false, false, false, false, false, false, false, false, false, false] rfl rfl (one_of HT_.out (by kernel_rfl)) (by decide) (fun K hK => ?_)
        refine goes_ Tryd.func28 (by kernel_rfl) rfl #[.agg #[.slice Ao28 t302.length co28, .string t305, .bool t306], .string js7] (by rfl) rfl rfl (by (try simp only [List.map_toArray, List.map_cons, List.map_nil]); first | done | rfl | (simp only [List.length_drop, List.length_take]; rfl)) ?_
        with_reducible refine (head_Message_Find.calls _ _ t302 t305 t306 js7 t320 _ ?side1 ?side2 A16.out).mono ?_
        (case side1 => repeat (first | exact (Kd.R_reads' HO304.out).2.2 | (with_reducible refine Kd.C_alloc ?_ _) | (with_reducible refine Kd.C_drewN ?_ _) | (with_reducible refine Kd.C_drew ?_)))
        (case side2 => exact (Kd.R_reads' HO304.out).2.1)
        rintro e w44 ⟨v321, rfl, ho0, hb⟩
        refine ⟨_, rfl, ?_⟩
        have n0_ := Aside0.mk (Kd.R_below (by (with_reducible repeat (first | apply Kd.R_alloc | apply Kd.R_drewN | apply Kd.R_drew)); exact HO304.out) hb)
        have n1_ := Aside0.mk (Kd.R_below (by (with_reducible repeat (first | apply Kd.R_alloc | apply Kd.R_drewN | apply Kd.R_drew)); exact HO309.out) hb)
        have n2_ := Aside0.mk (Kd.R_elder' (by (with_reducible repeat (first | apply Kd.R_alloc | apply Kd.R_drewN | apply Kd.R_drew)); exact HO315.out) (Kd.R_base ho0) hb)
        have n3_ := Aside0.mk (Kd.R_lower (Kd.R_new' ho0 (Kd.R_lt (by (with_reducible repeat (first | apply Kd.R_alloc | apply Kd.R_drewN | apply Kd.R_drew)); exact HO315.out))) (below_size (by repeat (first | (with_reducible first | exact HB.out | apply below_alloc | apply pw_below_drewN | apply below_drew1 | refine below_set ?_ GE301.out | refine below_set ?_ GE312.out) | exact HB.out))))
        have n4_ := Aside0.mk (blk_below (g := gb301) (o := .cells #[.slice Ao28 t302.length co28, .string t305, .bool t306] 24 (0, 0)) (by (with_reducible repeat (first | refine blk_drewN ?_ _ | refine blk_drew ?_ | refine blk_alloc ?_ _)); exact BK301.out) hb)
        have n5_ := Aside0.mk (blk_below (g := gb312) (o := .cells #[.slice Ao35 t307.length co35, .string t310, .bool t311] 30 (0, 0)) (by (with_reducible repeat (first | refine blk_drewN ?_ _ | refine blk_drew ?_ | refine blk_alloc ?_ _)); exact BK312.out) hb)
        have n6_ := Aside0.mk (below_step (by repeat (first | (with_reducible first | exact HB.out | apply below_alloc | apply pw_below_drewN | apply below_drew1 | refine below_set ?_ GE301.out | refine below_set ?_ GE312.out) | exact HB.out)) hb)
        clear HO304
        clear HO309
        clear HO315
        clear BK301
        clear BK312
        clear HB
        have HO304 := n0_
        have HO309 := n1_
        have HO315 := n2_
        have HO322 := n3_
        have BK301 := n4_
        have BK312 := n5_
        have HB := n6_
        clear n0_ n1_ n2_ n3_ n4_ n5_ n6_
        (try clear hb)
        (try clear hb2)
        (try clear hk)
        (try clear hi)
        (try clear ho0)
        obtain ⟨Ao45, co45, eo45⟩ := Kd.R_slice HO322.out
        (first | subst eo45 | (injection eo45 with f1_ f2_ f3_; have f4_ := f1_.symm; have f5_ := f3_.symm; clear f1_ f2_ f3_; subst f4_; subst f5_))
        obtain ⟨Ao46, co46, eo46⟩ := Kd.R_slice HO315.out
        (first | subst eo46 | (injection eo46 with f1_ f2_ f3_; have f4_ := f1_.symm; have f5_ := f3_.symm; clear f1_ f2_ f3_; subst f4_; subst f5_))
        refine hK.out _ _ ⟨(blk_cell BK301.out 0).trans rfl, (blk_cell BK301.out 1).trans rfl, (blk_cell BK301.out 2).trans rfl, (blk_cell BK312.out 0).trans rfl, (blk_cell BK312.out 1).trans rfl, (blk_cell BK312.out 2).trans rfl⟩ (fun hHeld => ?_)
        clear hK K
        refine norm_ (a' := ?_) ?_ ?_
        rotate_left
        ·show Act.put _ (some 34) _ = _
         simp only [Act.put, List.setIfInBounds_toArray, List.set_cons_zero, List.set_cons_succ, i64_w, i32_w]
         rfl
        refine one_ (i := 17) (N := some 36) #[true, true, true, true, true, true, true, true, true, true, true, true, true, true, true, true, true, true, false, false, false, false, false, false, false, false, false, false, false, false, false, false, false, false, false, false, false] rfl rfl (one_of HT_.out (by kernel_rfl)) (by decide) (fun K hK => ?_)
        refine goes_ Tryd.func27 (by kernel_rfl) rfl #[.slice Ao45 t320.length co45, .slice Ao46 t313.length co46] (by rfl) rfl rfl (by (try simp only [List.map_toArray, List.map_cons, List.map_nil]); first | done | rfl | (simp only [List.length_drop, List.length_take]; rfl)) ?_
        with_reducible refine (slices_Equal_string_string.calls k _ _ t320 _ _ t313 true _ ?side1 ?side2 ?side3 ?side4 A17.out).mono ?_
        (case side1 => repeat (first | exact (Kd.R_reads' HO322.out).2.2 | (with_reducible refine Kd.C_alloc ?_ _) | (with_reducible refine Kd.C_drewN ?_ _) | (with_reducible refine Kd.C_drew ?_)))
        (case side2 => exact (Kd.R_reads' HO322.out).2.1)
        (case side3 => repeat (first | exact (Kd.R_reads' HO315.out).2.2 | (with_reducible refine Kd.C_alloc ?_ _) | (with_reducible refine Kd.C_drewN ?_ _) | (with_reducible refine Kd.C_drew ?_)))
        (case side4 => exact (Kd.R_reads' HO315.out).2.1)
        rintro e w' ⟨rfl, ⟨nd, rfl⟩⟩
        refine ⟨_, rfl, ?_⟩
        refine hK.out _ _ ⟨(blk_cell BK301.out 0).trans rfl, (blk_cell BK301.out 1).trans rfl, (blk_cell BK301.out 2).trans rfl, (blk_cell BK312.out 0).trans rfl, (blk_cell BK312.out 1).trans rfl, (blk_cell BK312.out 2).trans rfl⟩ (fun hHeld => ?_)
        clear hK K
        refine norm_ (a' := ?_) ?_ ?_
        rotate_left
        ·show Act.put _ (some 36) _ = _
         simp only [Act.put, List.setIfInBounds_toArray, List.set_cons_zero, List.set_cons_succ, i64_w, i32_w]
         rfl
        refine pure_ (i := 18) (N := some 37) (v := ?_) (a' := ?_) #[true, true, true, true, true, true, true, true, true, true, true, true, true, true, true, true, true, true, true, false, false, false, false, false, false, false, false, false, false, false, false, false, false, false, false, false, false] rfl rfl (any_of HT_.out (by kernel_rfl)) (fun _ _ _ h => h) (Or.inl ⟨by rfl, ?_⟩) ?_ ?_
        rotate_left
        ·intro w'
         go_simp
         with_reducible rfl
        rotate_left
        ·simp only [Act.put, List.setIfInBounds_toArray, List.set_cons_zero, List.set_cons_succ, i64_w, i32_w]
         rfl
        refine pure_ (i := 19) (N := some 38) (v := ?_) (a' := ?_) #[true, true, true, true, true, true, true, true, true, true, true, true, true, true, true, true, true, true, true, true, false, false, false, false, false, false, false, false, false, false, false, false, false, false, false, false, false] rfl rfl (any_of HT_.out (by kernel_rfl)) (fun _ _ _ h => h) (Or.inl ⟨by rfl, ?_⟩) ?_ ?_
        rotate_left
        ·intro w'
         go_simp
         with_reducible rfl
        rotate_left
        ·simp only [Act.put, List.setIfInBounds_toArray, List.set_cons_zero, List.set_cons_succ, i64_w, i32_w]
         rfl
        refine pure_ (i := 21) (N := some 40) (v := ?_) (a' := ?_) #[true, true, true, true, true, true, true, true, true, true, true, true, true, true, true, true, true, true, true, true, false, true, false, false, false, false, false, false, false, false, false, false, false, false, false, false, false] rfl rfl (any_of HT_.out (by kernel_rfl)) (fun _ _ _ h => h) (Or.inl ⟨by rfl, ?_⟩) ?_ ?_
        rotate_left
        ·intro w'
         go_simp
         with_reducible rfl
        rotate_left
        ·simp only [Act.put, List.setIfInBounds_toArray, List.set_cons_zero, List.set_cons_succ, i64_w, i32_w]
         rfl
        refine pure_ (i := 23) (N := some 42) (v := ?_) (a' := ?_) #[true, true, true, true, true, true, true, true, true, true, true, true, true, true, true, true, true, true, true, true, false, true, false, true, false, false, false, false, false, false, false, false, false, false, false, false, false] rfl rfl (any_of HT_.out (by kernel_rfl)) (fun _ _ _ h => h) (Or.inl ⟨by rfl, ?_⟩) ?_ ?_
        rotate_left
        ·intro w'
         go_simp
         with_reducible rfl
        rotate_left
        ·simp only [Act.put, List.setIfInBounds_toArray, List.set_cons_zero, List.set_cons_succ, i64_w, i32_w]
         rfl
        refine pure_ (i := 24) (N := some 43) (v := ?_) (a' := ?_) #[true, true, true, true, true, true, true, true, true, true, true, true, true, true, true, true, true, true, true, true, false, true, false, true, true, false, false, false, false, false, false, false, false, false, false, false, false] rfl rfl (any_of HT_.out (by kernel_rfl)) (fun _ _ _ h => h) (Or.inl ⟨by rfl, ?_⟩) ?_ ?_
        rotate_left
        ·intro w'
         go_simp
         with_reducible rfl
        rotate_left
        ·simp only [Act.put, List.setIfInBounds_toArray, List.set_cons_zero, List.set_cons_succ, i64_w, i32_w]
         rfl
        refine take_ (i := 20) (N := some 39) (v := ?_) (a' := ?_) #[true, true, true, true, true, true, true, true, true, true, true, true, true, true, true, true, true, true, true, true, true, true, false, true, true, false, false, false, false, false, false, false, false, false, false, false, false] rfl rfl (take_ofW HT_.out HW_.out (by kernel_rfl)) (fun _ _ _ h => h) (Or.inl ⟨by rfl, ?_⟩) hHeld ?_ ?_
        rotate_left
        ·rintro w' ⟨s0, s1, s2, s3, s4, s5⟩
         go_simp
         with_reducible rfl
        rotate_left
        ·simp only [Act.put, List.setIfInBounds_toArray, List.set_cons_zero, List.set_cons_succ, i64_w, i32_w]
         rfl
        refine one_ (i := 22) (N := some 41) #[true, true, true, true, true, true, true, true, true, true, true, true, true, true, true, true, true, true, true, true, true, true, true, true, true, false, false, false, false, false, false, false, false, false, false, false, false] rfl rfl (one_of HT_.out (by kernel_rfl)) (by decide) (fun K hK => ?_)
        refine goes_ Tryd.func29 (by kernel_rfl) rfl #[.agg #[.slice Ao28 t302.length co28, .string t305, .bool t306], .string js7] (by rfl) rfl rfl (by (try simp only [List.map_toArray, List.map_cons, List.map_nil]); first | done | rfl | (simp only [List.length_drop, List.length_take]; rfl)) ?_
        with_reducible refine (head_Message_Count.calls _ _ t302 t305 t306 js7 t324 _ ?side1 ?side2 A19.out).mono ?_
        (case side1 => repeat (first | exact (Kd.R_reads' HO304.out).2.2 | (with_reducible refine Kd.C_alloc ?_ _) | (with_reducible refine Kd.C_drewN ?_ _) | (with_reducible refine Kd.C_drew ?_)))
        (case side2 => exact (Kd.R_reads' HO304.out).2.1)
        rintro e w47 ⟨rfl, hb⟩
        refine ⟨_, rfl, ?_⟩
        have n0_ := Aside0.mk (Kd.R_below (by (with_reducible repeat (first | apply Kd.R_alloc | apply Kd.R_drewN | apply Kd.R_drew)); exact HO304.out) hb)
        have n1_ := Aside0.mk (Kd.R_below (by (with_reducible repeat (first | apply Kd.R_alloc | apply Kd.R_drewN | apply Kd.R_drew)); exact HO309.out) hb)
        have n2_ := Aside0.mk (Kd.R_below (by (with_reducible repeat (first | apply Kd.R_alloc | apply Kd.R_drewN | apply Kd.R_drew)); exact HO315.out) hb)
        have n3_ := Aside0.mk (Kd.R_below (by (with_reducible repeat (first | apply Kd.R_alloc | apply Kd.R_drewN | apply Kd.R_drew)); exact HO322.out) hb)
        have n4_ := Aside0.mk (blk_below (g := gb301) (o := .cells #[.slice Ao28 t302.length co28, .string t305, .bool t306] 24 (0, 0)) (by (with_reducible repeat (first | refine blk_drewN ?_ _ | refine blk_drew ?_ | refine blk_alloc ?_ _)); exact BK301.out) hb)
        have n5_ := Aside0.mk (blk_below (g := gb312) (o := .cells #[.slice Ao35 t307.length co35, .string t310, .bool t311] 30 (0, 0)) (by (with_reducible repeat (first | refine blk_drewN ?_ _ | refine blk_drew ?_ | refine blk_alloc ?_ _)); exact BK312.out) hb)
        have n6_ := Aside0.mk (below_step (by repeat (first | (with_reducible first | exact HB.out | apply below_alloc | apply pw_below_drewN | apply below_drew1 | refine below_set ?_ GE301.out | refine below_set ?_ GE312.out) | exact HB.out)) hb)
        clear HO304
        clear HO309
        clear HO315
        clear HO322
        clear BK301
        clear BK312
        clear HB
        have HO304 := n0_
        have HO309 := n1_
        have HO315 := n2_
        have HO322 := n3_
        have BK301 := n4_
        have BK312 := n5_
        have HB := n6_
        clear n0_ n1_ n2_ n3_ n4_ n5_ n6_
        (try clear hb)
        (try clear hb2)
        (try clear hk)
        (try clear hi)
        refine hK.out _ _ ⟨(blk_cell BK301.out 0).trans rfl, (blk_cell BK301.out 1).trans rfl, (blk_cell BK301.out 2).trans rfl, (blk_cell BK312.out 0).trans rfl, (blk_cell BK312.out 1).trans rfl, (blk_cell BK312.out 2).trans rfl⟩ (fun hHeld => ?_)
        clear hK K
        refine norm_ (a' := ?_) ?_ ?_
        rotate_left
        ·show Act.put _ (some 41) _ = _
         simp only [Act.put, List.setIfInBounds_toArray, List.set_cons_zero, List.set_cons_succ, i64_w, i32_w]
         rfl
        refine pure_ (i := 25) (N := some 44) (v := ?_) (a' := ?_) #[true, true, true, true, true, true, true, true, true, true, true, true, true, true, true, true, true, true, true, true, true, true, true, true, true, true, false, false, false, false, false, false, false, false, false, false, false] rfl rfl (any_of HT_.out (by kernel_rfl)) (fun _ _ _ h => h) (Or.inl ⟨by rfl, ?_⟩) ?_ ?_
        rotate_left
        ·intro w'
         go_simp
         with_reducible rfl
        rotate_left
        ·simp only [Act.put, List.setIfInBounds_toArray, List.set_cons_zero, List.set_cons_succ, i64_w, i32_w]
         rfl
        refine pure_ (i := 26) (N := some 45) (v := ?_) (a' := ?_) #[true, true, true, true, true, true, true, true, true, true, true, true, true, true, true, true, true, true, true, true, true, true, true, true, true, true, true, false, false, false, false, false, false, false, false, false, false] rfl rfl (any_of HT_.out (by kernel_rfl)) (fun _ _ _ h => h) (Or.inl ⟨by rfl, ?_⟩) ?_ ?_
        rotate_left
        ·intro w'
         go_simp
         with_reducible rfl
        rotate_left
        ·simp only [Act.put, List.setIfInBounds_toArray, List.set_cons_zero, List.set_cons_succ, i64_w, i32_w]
         rfl
        refine pure_ (i := 27) (N := some 46) (v := ?_) (a' := ?_) #[true, true, true, true, true, true, true, true, true, true, true, true, true, true, true, true, true, true, true, true, true, true, true, true, true, true, true, true, false, false, false, false, false, false, false, false, false] rfl rfl (any_of HT_.out (by kernel_rfl)) (fun _ _ _ h => h) (Or.inl ⟨by rfl, ?_⟩) ?_ ?_
        rotate_left
        ·intro w'
         go_simp
         with_reducible rfl
        rotate_left
        ·simp only [Act.put, List.setIfInBounds_toArray, List.set_cons_zero, List.set_cons_succ, i64_w, i32_w]
         rfl
        refine take_ (i := 28) (N := some 47) (v := ?_) (a' := ?_) #[true, true, true, true, true, true, true, true, true, true, true, true, true, true, true, true, true, true, true, true, true, true, true, true, true, true, true, true, true, false, false, false, false, false, false, false, false] rfl rfl (take_ofW HT_.out HW_.out (by kernel_rfl)) (fun _ _ _ h => h) (Or.inl ⟨by rfl, ?_⟩) hHeld ?_ ?_
        rotate_left
        ·rintro w' ⟨s0, s1, s2, s3, s4, s5⟩
         go_simp
         with_reducible rfl
        rotate_left
        ·simp only [Act.put, List.setIfInBounds_toArray, List.set_cons_zero, List.set_cons_succ, i64_w, i32_w]
         rfl
        refine take_ (i := 30) (N := some 49) (v := ?_) (a' := ?_) #[true, true, true, true, true, true, true, true, true, true, true, true, true, true, true, true, true, true, true, true, true, true, true, true, true, true, true, true, true, false, true, false, false, false, false, false, false] rfl rfl (take_ofW HT_.out HW_.out (by kernel_rfl)) (fun _ _ _ h => h) (Or.inl ⟨by rfl, ?_⟩) hHeld ?_ ?_
        rotate_left
        ·rintro w' ⟨s0, s1, s2, s3, s4, s5⟩
         go_simp
         with_reducible rfl
        rotate_left
        ·simp only [Act.put, List.setIfInBounds_toArray, List.set_cons_zero, List.set_cons_succ, i64_w, i32_w]
         rfl
        refine one_ (i := 29) (N := some 48) #[true, true, true, true, true, true, true, true, true, true, true, true, true, true, true, true, true, true, true, true, true, true, true, true, true, true, true, true, true, true, true, false, false, false, false, false, false] rfl rfl (one_of HT_.out (by kernel_rfl)) (by decide) (fun K hK => ?_)
        refine goes_ Tryd.func12 (by kernel_rfl) rfl #[.agg #[.slice Ao28 t302.length co28, .string t305, .bool t306]] (by rfl) rfl rfl (by (try simp only [List.map_toArray, List.map_cons, List.map_nil]); first | done | rfl | (simp only [List.length_drop, List.length_take]; rfl)) ?_
        with_reducible refine (postriderlaw07_Of.calls k _ _ t302 t305 t306 t325 t328 t329 _ ?side1 ?side2 A21.out).mono ?_
        (case side1 => repeat (first | exact (Kd.R_reads' HO304.out).2.2 | (with_reducible refine Kd.C_alloc ?_ _) | (with_reducible refine Kd.C_drewN ?_ _) | (with_reducible refine Kd.C_drew ?_)))
        (case side2 => exact (Kd.R_reads' HO304.out).2.1)
        rintro e w48 ⟨v326, rfl, ho0, hb⟩
        refine ⟨_, rfl, ?_⟩
        have n0_ := Aside0.mk (Kd.R_below (by (with_reducible repeat (first | apply Kd.R_alloc | apply Kd.R_drewN | apply Kd.R_drew)); exact HO304.out) hb)
        have n1_ := Aside0.mk (Kd.R_elder' (by (with_reducible repeat (first | apply Kd.R_alloc | apply Kd.R_drewN | apply Kd.R_drew)); exact HO309.out) (Kd.R_base ho0) hb)
        have n2_ := Aside0.mk (Kd.R_below (by (with_reducible repeat (first | apply Kd.R_alloc | apply Kd.R_drewN | apply Kd.R_drew)); exact HO315.out) hb)
        have n3_ := Aside0.mk (Kd.R_below (by (with_reducible repeat (first | apply Kd.R_alloc | apply Kd.R_drewN | apply Kd.R_drew)); exact HO322.out) hb)
        have n4_ := Aside0.mk (Kd.R_lower (Kd.R_new' ho0 (Kd.R_lt (by (with_reducible repeat (first | apply Kd.R_alloc | apply Kd.R_drewN | apply Kd.R_drew)); exact HO309.out))) (below_size (by repeat (first | (with_reducible first | exact HB.out | apply below_alloc | apply pw_below_drewN | apply below_drew1 | refine below_set ?_ GE301.out | refine below_set ?_ GE312.out) | exact HB.out))))
        have n5_ := Aside0.mk (blk_below (g := gb301) (o := .cells #[.slice Ao28 t302.length co28, .string t305, .bool t306] 24 (0, 0)) (by (with_reducible repeat (first | refine blk_drewN ?_ _ | refine blk_drew ?_ | refine blk_alloc ?_ _)); exact BK301.out) hb)
        have n6_ := Aside0.mk (blk_below (g := gb312) (o := .cells #[.slice Ao35 t307.length co35, .string t310, .bool t311] 30 (0, 0)) (by (with_reducible repeat (first | refine blk_drewN ?_ _ | refine blk_drew ?_ | refine blk_alloc ?_ _)); exact BK312.out) hb)
        have n7_ := Aside0.mk (below_step (by repeat (first | (with_reducible first | exact HB.out | apply below_alloc | apply pw_below_drewN | apply below_drew1 | refine below_set ?_ GE301.out | refine below_set ?_ GE312.out) | exact HB.out)) hb)
        clear HO304
        clear HO309
        clear HO315
        clear HO322
        clear BK301
        clear BK312
        clear HB
        have HO304 := n0_
        have HO309 := n1_
        have HO315 := n2_
        have HO322 := n3_
        have HO327 := n4_
        have BK301 := n5_
        have BK312 := n6_
        have HB := n7_
        clear n0_ n1_ n2_ n3_ n4_ n5_ n6_ n7_
        (try clear hb)
        (try clear hb2)
        (try clear hk)
        (try clear hi)
        (try clear ho0)
        obtain ⟨Ao49, co49, eo49⟩ := Kd.R_slice HO327.out
        (first | subst eo49 | (injection eo49 with f1_ f2_ f3_; have f4_ := f1_.symm; have f5_ := f3_.symm; clear f1_ f2_ f3_; subst f4_; subst f5_))
        refine hK.out _ _ ⟨(blk_cell BK301.out 0).trans rfl, (blk_cell BK301.out 1).trans rfl, (blk_cell BK301.out 2).trans rfl, (blk_cell BK312.out 0).trans rfl, (blk_cell BK312.out 1).trans rfl, (blk_cell BK312.out 2).trans rfl⟩ (fun hHeld => ?_)
        clear hK K
        refine norm_ (a' := ?_) ?_ ?_
        rotate_left
        ·show Act.put _ (some 48) _ = _
         simp only [Act.put, List.setIfInBounds_toArray, List.set_cons_zero, List.set_cons_succ, i64_w, i32_w]
         rfl
        refine one_ (i := 31) (N := some 50) #[true, true, true, true, true, true, true, true, true, true, true, true, true, true, true, true, true, true, true, true, true, true, true, true, true, true, true, true, true, true, true, true, false, false, false, false, false] rfl rfl (one_of HT_.out (by kernel_rfl)) (by decide) (fun K hK => ?_)
        refine goes_ Tryd.func11 (by kernel_rfl) rfl #[.agg #[.slice Ao49 t325.length co49, .string t328, .bool t329], .agg #[.slice Ao35 t307.length co35, .string t310, .bool t311]] (by rfl) rfl rfl (by (try simp only [List.map_toArray, List.map_cons, List.map_nil]); first | done | rfl | (simp only [List.length_drop, List.length_take]; rfl)) ?_
        with_reducible refine (postriderref07_Same.calls k _ _ t325 t328 t329 _ _ t307 t310 t311 true _ ?side1 ?side2 ?side3 ?side4 A22.out).mono ?_
        (case side1 => repeat (first | exact (Kd.R_reads' HO327.out).2.2 | (with_reducible refine Kd.C_alloc ?_ _) | (with_reducible refine Kd.C_drewN ?_ _) | (with_reducible refine Kd.C_drew ?_)))
        (case side2 => exact (Kd.R_reads' HO327.out).2.1)
        (case side3 => repeat (first | exact (Kd.R_reads' HO309.out).2.2 | (with_reducible refine Kd.C_alloc ?_ _) | (with_reducible refine Kd.C_drewN ?_ _) | (with_reducible refine Kd.C_drew ?_)))
        (case side4 => exact (Kd.R_reads' HO309.out).2.1)
        rintro e w50 ⟨rfl, hb⟩
        refine ⟨_, rfl, ?_⟩
        have n0_ := Aside0.mk (Kd.R_below (by (with_reducible repeat (first | apply Kd.R_alloc | apply Kd.R_drewN | apply Kd.R_drew)); exact HO304.out) hb)
        have n1_ := Aside0.mk (Kd.R_below (by (with_reducible repeat (first | apply Kd.R_alloc | apply Kd.R_drewN | apply Kd.R_drew)); exact HO309.out) hb)
        have n2_ := Aside0.mk (Kd.R_below (by (with_reducible repeat (first | apply Kd.R_alloc | apply Kd.R_drewN | apply Kd.R_drew)); exact HO315.out) hb)
        have n3_ := Aside0.mk (Kd.R_below (by (with_reducible repeat (first | apply Kd.R_alloc | apply Kd.R_drewN | apply Kd.R_drew)); exact HO322.out) hb)
        have n4_ := Aside0.mk (Kd.R_below (by (with_reducible repeat (first | apply Kd.R_alloc | apply Kd.R_drewN | apply Kd.R_drew)); exact HO327.out) hb)
        have n5_ := Aside0.mk (blk_below (g := gb301) (o := .cells #[.slice Ao28 t302.length co28, .string t305, .bool t306] 24 (0, 0)) (by (with_reducible repeat (first | refine blk_drewN ?_ _ | refine blk_drew ?_ | refine blk_alloc ?_ _)); exact BK301.out) hb)
        have n6_ := Aside0.mk (blk_below (g := gb312) (o := .cells #[.slice Ao35 t307.length co35, .string t310, .bool t311] 30 (0, 0)) (by (with_reducible repeat (first | refine blk_drewN ?_ _ | refine blk_drew ?_ | refine blk_alloc ?_ _)); exact BK312.out) hb)
        have n7_ := Aside0.mk (below_step (by repeat (first | (with_reducible first | exact HB.out | apply below_alloc | apply pw_below_drewN | apply below_drew1 | refine below_set ?_ GE301.out | refine below_set ?_ GE312.out) | exact HB.out)) hb)
        clear HO304
        clear HO309
        clear HO315
        clear HO322
        clear HO327
        clear BK301
        clear BK312
        clear HB
        have HO304 := n0_
        have HO309 := n1_
        have HO315 := n2_
        have HO322 := n3_
        have HO327 := n4_
        have BK301 := n5_
        have BK312 := n6_
        have HB := n7_
        clear n0_ n1_ n2_ n3_ n4_ n5_ n6_ n7_
        (try clear hb)
        (try clear hb2)
        (try clear hk)
        (try clear hi)
        refine hK.out _ _ ⟨(blk_cell BK301.out 0).trans rfl, (blk_cell BK301.out 1).trans rfl, (blk_cell BK301.out 2).trans rfl, (blk_cell BK312.out 0).trans rfl, (blk_cell BK312.out 1).trans rfl, (blk_cell BK312.out 2).trans rfl⟩ (fun hHeld => ?_)
        clear hK K
        refine norm_ (a' := ?_) ?_ ?_
        rotate_left
        ·show Act.put _ (some 50) _ = _
         simp only [Act.put, List.setIfInBounds_toArray, List.set_cons_zero, List.set_cons_succ, i64_w, i32_w]
         rfl
        refine pure_ (i := 32) (N := some 51) (v := ?_) (a' := ?_) #[true, true, true, true, true, true, true, true, true, true, true, true, true, true, true, true, true, true, true, true, true, true, true, true, true, true, true, true, true, true, true, true, true, false, false, false, false] rfl rfl (any_of HT_.out (by kernel_rfl)) (fun _ _ _ h => h) (Or.inl ⟨by rfl, ?_⟩) ?_ ?_
        rotate_left
        ·intro w'
         go_simp
         with_reducible rfl
        rotate_left
        ·simp only [Act.put, List.setIfInBounds_toArray, List.set_cons_zero, List.set_cons_succ, i64_w, i32_w]
         rfl
        refine pure_ (i := 33) (N := some 52) (v := ?_) (a' := ?_) #[true, true, true, true, true, true, true, true, true, true, true, true, true, true, true, true, true, true, true, true, true, true, true, true, true, true, true, true, true, true, true, true, true, true, false, false, false] rfl rfl (any_of HT_.out (by kernel_rfl)) (fun _ _ _ h => h) (Or.inl ⟨by rfl, ?_⟩) ?_ ?_
        rotate_left
        ·intro w'
         go_simp
         with_reducible rfl
        rotate_left
        ·simp only [Act.put, List.setIfInBounds_toArray, List.set_cons_zero, List.set_cons_succ, i64_w, i32_w]
         rfl
        refine one_ (i := 34) (N := some 53) #[true, true, true, true, true, true, true, true, true, true, true, true, true, true, true, true, true, true, true, true, true, true, true, true, true, true, true, true, true, true, true, true, true, true, true, false, false] rfl rfl (one_of HT_.out (by kernel_rfl)) (by decide) (fun K hK => ?_)
        refine goes_ Tryd.func13 (by kernel_rfl) rfl #[] (by rfl) rfl rfl (by (try simp only [List.map_toArray, List.map_cons, List.map_nil]); first | done | rfl | (simp only [List.length_drop, List.length_take]; rfl)) ?_
        with_reducible refine (postriderlaw07_wakes.calls k  t331 _ ?side1 A24.out).mono ?_
        (case side1 => exact Glob.below HG.out (by repeat (first | (with_reducible first | exact HB.out | apply below_alloc | apply pw_below_drewN | apply below_drew1 | refine below_set ?_ GE301.out | refine below_set ?_ GE312.out) | exact HB.out)))
        rintro e w51 ⟨rfl, hb⟩
        refine ⟨_, rfl, ?_⟩
        have n0_ := Aside0.mk (Kd.R_below (by (with_reducible repeat (first | apply Kd.R_alloc | apply Kd.R_drewN | apply Kd.R_drew)); exact HO304.out) hb)
        have n1_ := Aside0.mk (Kd.R_below (by (with_reducible repeat (first | apply Kd.R_alloc | apply Kd.R_drewN | apply Kd.R_drew)); exact HO309.out) hb)
        have n2_ := Aside0.mk (Kd.R_below (by (with_reducible repeat (first | apply Kd.R_alloc | apply Kd.R_drewN | apply Kd.R_drew)); exact HO315.out) hb)
        have n3_ := Aside0.mk (Kd.R_below (by (with_reducible repeat (first | apply Kd.R_alloc | apply Kd.R_drewN | apply Kd.R_drew)); exact HO322.out) hb)
        have n4_ := Aside0.mk (Kd.R_below (by (with_reducible repeat (first | apply Kd.R_alloc | apply Kd.R_drewN | apply Kd.R_drew)); exact HO327.out) hb)
        have n5_ := Aside0.mk (blk_below (g := gb301) (o := .cells #[.slice Ao28 t302.length co28, .string t305, .bool t306] 24 (0, 0)) (by (with_reducible repeat (first | refine blk_drewN ?_ _ | refine blk_drew ?_ | refine blk_alloc ?_ _)); exact BK301.out) hb)
        have n6_ := Aside0.mk (blk_below (g := gb312) (o := .cells #[.slice Ao35 t307.length co35, .string t310, .bool t311] 30 (0, 0)) (by (with_reducible repeat (first | refine blk_drewN ?_ _ | refine blk_drew ?_ | refine blk_alloc ?_ _)); exact BK312.out) hb)
        have n7_ := Aside0.mk (below_step (by repeat (first | (with_reducible first | exact HB.out | apply below_alloc | apply pw_below_drewN | apply below_drew1 | refine below_set ?_ GE301.out | refine below_set ?_ GE312.out) | exact HB.out)) hb)
        clear HO304
        clear HO309
        clear HO315
        clear HO322
        clear HO327
        clear BK301
        clear BK312
        clear HB
        have HO304 := n0_
        have HO309 := n1_
        have HO315 := n2_
        have HO322 := n3_
        have HO327 := n4_
        have BK301 := n5_
        have BK312 := n6_
        have HB := n7_
        clear n0_ n1_ n2_ n3_ n4_ n5_ n6_ n7_
        (try clear hb)
        (try clear hb2)
        (try clear hk)
        (try clear hi)
        refine hK.out _ _ ⟨(blk_cell BK301.out 0).trans rfl, (blk_cell BK301.out 1).trans rfl, (blk_cell BK301.out 2).trans rfl, (blk_cell BK312.out 0).trans rfl, (blk_cell BK312.out 1).trans rfl, (blk_cell BK312.out 2).trans rfl⟩ (fun hHeld => ?_)
        clear hK K
        refine norm_ (a' := ?_) ?_ ?_
        rotate_left
        ·show Act.put _ (some 53) _ = _
         simp only [Act.put, List.setIfInBounds_toArray, List.set_cons_zero, List.set_cons_succ, i64_w, i32_w]
         rfl
        refine pure_ (i := 35) (N := some 54) (v := ?_) (a' := ?_) #[true, true, true, true, true, true, true, true, true, true, true, true, true, true, true, true, true, true, true, true, true, true, true, true, true, true, true, true, true, true, true, true, true, true, true, true, false] rfl rfl (any_of HT_.out (by kernel_rfl)) (fun _ _ _ h => h) (Or.inl ⟨by rfl, ?_⟩) ?_ ?_
        rotate_left
        ·intro w'
         go_simp
         with_reducible rfl
        rotate_left
        ·simp only [Act.put, List.setIfInBounds_toArray, List.set_cons_zero, List.set_cons_succ, i64_w, i32_w]
         rfl
        refine pure_ (i := 36) (N := some 4) (v := ?_) (a' := ?_) #[true, true, true, true, true, true, true, true, true, true, true, true, true, true, true, true, true, true, true, true, true, true, true, true, true, true, true, true, true, true, true, true, true, true, true, true, true] rfl rfl (any_of HT_.out (by kernel_rfl)) (fun _ _ _ h => h) (Or.inl ⟨by rfl, ?_⟩) ?_ ?_
        rotate_left
        ·intro w'
         go_simp
         with_reducible rfl
        rotate_left
        ·simp only [Act.put, List.setIfInBounds_toArray, List.set_cons_zero, List.set_cons_succ, i64_w, i32_w]
         rfl
        refine done_ (done_of HT_.out (by kernel_rfl)) ?_
        try go_wp2
        go_ret
        exact ⟨by first | rfl | (simp [bneNil]; done) | (simp [errW_none, errW_some] <;> rfl) | (simp only [← hji4]; first | rfl | (simp [errW_none, errW_some] <;> rfl)) | (simp [*, errW_none, errW_some] <;> rfl), by repeat (first | (with_reducible first | exact HB.out | apply below_alloc | apply pw_below_drewN | apply below_drew1 | refine below_set ?_ GE301.out | refine below_set ?_ GE312.out) | exact HB.out)⟩
       ·replace c23 := Bool.eq_false_iff.mpr c23
        subst c23
        have H1 : (some false) = some r := by rw [if_neg (show ¬ (false = true) by decide)] at H; exact H
        clear H
        have H := H1
        clear H1
        exact absurd ((Option.some.inj H).trans HT_r.out) (by decide)
      ·rw [if_neg c20] at H
       have c20b0 : (t324 == (t313.length : Int)) = false := beq_eq_false_iff_ne.mpr c20
       have c20b1 : (t324 != (t313.length : Int)) = true := bne_iff_ne.mpr c20
       exact absurd ((Option.some.inj H).trans HT_r.out) (by decide)
     ·replace c18 := Bool.eq_false_iff.mpr c18
      subst c18
      have H1 : (some false) = some r := by rw [if_neg (show ¬ (false = true) by decide)] at H; exact H
      clear H
      have H := H1
      clear H1
      exact absurd ((Option.some.inj H).trans HT_r.out) (by decide)
    ·rw [if_neg c15] at H
     have c15b0 : (t318.toList == t319.toList) = false := beq_eq_false_iff_ne.mpr c15
     have c15b1 : (t318.toList != t319.toList) = true := bne_iff_ne.mpr c15
     exact absurd ((Option.some.inj H).trans HT_r.out) (by decide)
   ·rw [if_neg c12] at H
    have c12b0 : (t316 == t317) = false := by simpa using c12
    (try (have c12b1 : decide (t316 = t317) = false := by simpa using c12))
    (try (have c12b2 : (t316 == t317) = false := by simpa using c12))
    (try (have c12b3 : ¬ (t316 = t317) := by simpa using c12))
    clear c12
    exact absurd ((Option.some.inj H).trans HT_r.out) (by decide)
  ·rw [if_neg c6] at H
   exact absurd H (by simp)
 ·rw [if_neg c5] at H
  exact absurd H (by simp)

/-- THE ONE PURE STATEMENT of postriderlaw07_HeadTells: yours. -/
def postriderlaw07_HeadTells.Pure : Prop := ∀ (l0_0 : List (S41)) (a0_1 : ByteArray) (a0_2 : Bool) (a1 : ByteArray), l0_0.length ≤ maxLen → (∀ y_ ∈ l0_0, (y_.f0.size ≤ maxLen ∧ y_.f1.size ≤ maxLen ∧ y_.f2.size ≤ maxLen)) → a0_1.size ≤ maxLen → a1.size ≤ 140737488351232 → ∃ k, postriderlaw07_HeadTells.f k l0_0 a0_1 a0_2 a1 = some true
theorem postriderlaw07_HeadTells.walk (P : postriderlaw07_HeadTells.Pure) (A0_0 : Option Addr) (c0_0 : Nat) (l0_0 : List (S41)) (a0_1 : ByteArray) (a0_2 : Bool) (a1 : ByteArray) (w : World) (hr0_0 : Kd.C k41 w A0_0 l0_0.length l0_0) (hc0_0 : l0_0.length ≤ c0_0) (hm0_0 : l0_0.length ≤ maxLen) (hw0_0 : ∀ y_ ∈ l0_0, (y_.f0.size ≤ maxLen ∧ y_.f1.size ≤ maxLen ∧ y_.f2.size ≤ maxLen)) (w0_1 : a0_1.size ≤ maxLen) (w1 : a1.size ≤ 140737488351232) (hG : Glob w) :
  Calls Tryd.prog 5 #[.agg #[.slice A0_0 l0_0.length c0_0, .string a0_1, .bool a0_2], .string a1] w fun e w' => e = .returned (.bool true) ∧ Below w.heap.size w w' := by
 obtain ⟨k, h⟩ := P l0_0 a0_1 a0_2 a1 hm0_0 hw0_0 w0_1 w1
 refine (postriderlaw07_HeadTells.calls k _ _ l0_0 a0_1 a0_2 a1 true w hr0_0 hc0_0 hG rfl h).mono ?_
 rintro e w' ⟨rfl, hd⟩
 exact ⟨rfl, hd⟩

end Go.Proofs.YtdciiahlakgikaaDoor.Q
end
