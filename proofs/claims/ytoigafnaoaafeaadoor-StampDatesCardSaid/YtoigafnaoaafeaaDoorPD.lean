/- Dates read: the program's way, on lists of bytes. -/
import Derived.Test.YtoigafnaoaafeaaDoorP
import Derived.Test.YtoigafnaoaafeaaDoorSP
import Derived.Test.YtoigafnaoaafeaaDoorTX
import Derived.Test.YtoigafnaoaafeaaDoorQx0
import Derived.Test.YtoigafnaoaafeaaDoorQx4
namespace Go.Proofs.YtoigafnaoaafeaaDoor.S
open Go.RowKit Go.Proofs.YtoigafnaoaafeaaDoor.Q Go.Proofs.YtoigafnaoaafeaaDoorW.PrintWords Go.Proofs.YtoigafnaoaafeaaDoorW.PrintLast Go.Proofs.YtoigafnaoaafeaaDoorW.PrintMore
set_option linter.unusedVariables false
set_option linter.unusedSimpArgs false
/-! ### digits -/
def dC (c : UInt8) : Bool := decide (48 ≤ c.toNat) && decide (c.toNat ≤ 57)
def dgN : Nat → List UInt8 → Nat
  | a, [] => a
  | a, c :: l => dgN (10 * a + (c.toNat - 48)) l
theorem dC_iff (c : UInt8) : dC c = true ↔ 48 ≤ c.toNat ∧ c.toNat ≤ 57 := by simp [dC]
theorem dgN_lt : ∀ (l : List UInt8) (a : Nat), l.all dC = true → dgN a l < (a + 1) * 10 ^ l.length
  | [], a, _ => by
    rw [List.length_nil, Nat.pow_zero, Nat.mul_one]
    exact Nat.lt_succ_self a
  | c :: l, a, h => by
    simp only [List.all_cons, Bool.and_eq_true] at h
    have hc := (dC_iff c).1 h.1
    have := dgN_lt l (10 * a + (c.toNat - 48)) h.2
    unfold dgN
    refine Nat.lt_of_lt_of_le this ?_
    have h2 : 10 * a + (c.toNat - 48) + 1 ≤ (a + 1) * 10 := by omega
    rw [List.length_cons, Nat.pow_succ, Nat.mul_comm (10 ^ l.length) 10, ← Nat.mul_assoc]
    exact Nat.mul_le_mul_right (10 ^ l.length) h2
theorem dgN_small {l : List UInt8} (h : l.all dC = true) {n : Nat} (hn : l.length ≤ n) : dgN 0 l < 10 ^ n := by
  have := dgN_lt l 0 h
  rw [Nat.zero_add, Nat.one_mul] at this
  exact Nat.lt_of_lt_of_le this (Nat.pow_le_pow_right (by omega) hn)
theorem pum : ∀ (l : List UInt8) (a : Nat), l.all dC = true → (a + 1) * 10 ^ l.length ≤ 10 ^ 10 → Lib.parseUintM (2 ^ 64 - 1) a l = .ok (dgN a l)
  | [], a, _, _ => rfl
  | c :: l, a, h, hb => by
    simp only [List.all_cons, Bool.and_eq_true] at h
    have hc := (dC_iff c).1 h.1
    have hp : 1 ≤ 10 ^ l.length := Nat.one_le_pow _ _ (by omega)
    rw [List.length_cons, Nat.pow_succ, Nat.mul_comm (10 ^ l.length) 10, ← Nat.mul_assoc] at hb
    have h1 : (a + 1) * 10 * 1 ≤ (a + 1) * 10 * 10 ^ l.length := Nat.mul_le_mul_left _ hp
    have h2 : (10 * a + (c.toNat - 48) + 1) * 10 ^ l.length ≤ (a + 1) * 10 * 10 ^ l.length := Nat.mul_le_mul_right _ (by omega)
    have e : (10 : Nat) ^ 10 = 10000000000 := rfl
    have e2 : (2 : Nat) ^ 64 - 1 = 18446744073709551615 := rfl
    have ih := pum l (10 * a + (c.toNat - 48)) h.2 (by omega)
    unfold Lib.parseUintM dgN
    rw [if_pos hc, if_neg (by omega), if_neg (by omega), show a * 10 + (c.toNat - 48) = 10 * a + (c.toNat - 48) by omega]
    exact ih
theorem parse_dig {l : List UInt8} (h : l.all dC = true) (h1 : 1 ≤ l.length) (h2 : l.length ≤ 10) : strconv_ParseInt.f (B l) 10 64 = some ((dgN 0 l : Int), none) := by
  unfold strconv_ParseInt.f
  rw [if_pos ⟨rfl, rfl, by rw [B_size]; omega⟩, show (B l).data.toList = l from L_B l]
  have hu : Lib.parseUintM (2 ^ 64 - 1) 0 l = .ok (dgN 0 l) := pum l 0 h (by rw [Nat.zero_add, Nat.one_mul]; exact Nat.pow_le_pow_right (by omega) h2)
  have hs := dgN_small h h2
  have e : (10 : Nat) ^ 10 = 10000000000 := rfl
  cases l with
  | nil => simp at h1
  | cons c r =>
    simp only [List.all_cons, Bool.and_eq_true] at h
    have hc := (dC_iff c).1 h.1
    have hp : Lib.parseIntB 64 (c :: r) = .ok (dgN 0 (c :: r) : Int) := by
      unfold Lib.parseIntB
      simp only []
      rw [if_neg (by omega)]
      unfold Lib.parseUintB
      rw [if_neg (by simp), hu]
      simp only []
      rw [if_neg (by have : (2 : Nat) ^ (64 - 1) = 9223372036854775808 := rfl; omega), if_neg (by omega), if_neg (by omega)]
    rw [hp]
/-- A number of digits, at least and at most so many; below 0: it is none. -/
def nmS (w : List UInt8) (lo hi : Nat) : Int := if lo ≤ w.length ∧ w.length ≤ hi ∧ w.all dC = true ∧ (lo < w.length → w.head? ≠ some 48) then (dgN 0 w : Int) else -1
theorem nmS_ge {w : List UInt8} {lo hi : Nat} (h : 0 ≤ nmS w lo hi) : lo ≤ w.length ∧ w.length ≤ hi ∧ w.all dC = true ∧ (lo < w.length → w.head? ≠ some 48) := by
  unfold nmS at h
  split at h
  · assumption
  · omega
theorem nmS_eq {w : List UInt8} {lo hi : Nat} (h1 : lo ≤ w.length) (h2 : w.length ≤ hi) (h3 : w.all dC = true) (h4 : lo < w.length → w.head? ≠ some 48) : nmS w lo hi = (dgN 0 w : Int) := if_pos ⟨h1, h2, h3, h4⟩
theorem trim_dig (w : List UInt8) (hs : w.length ≤ 1000) : ∃ t, strings_Trim.f (B w) (⟨#[48, 49, 50, 51, 52, 53, 54, 55, 56, 57]⟩ : ByteArray) = some (B t) ∧ (t = [] ↔ w.all dC = true) := by
  unfold strings_Trim.f
  rw [if_pos ⟨by rw [B_size]; omega, by decide, by decide⟩]
  refine ⟨_, rfl, ?_⟩
  rw [show (B w).data.toList = w from L_B w, show (⟨#[48, 49, 50, 51, 52, 53, 54, 55, 56, 57]⟩ : ByteArray).data.toList = [48, 49, 50, 51, 52, 53, 54, 55, 56, 57] from rfl]
  unfold Lib.trimS Lib.trimLeftS Lib.trimRightS
  have hd : ∀ c : UInt8, ([48, 49, 50, 51, 52, 53, 54, 55, 56, 57] : List UInt8).contains c = dC c := fun c => byte_all (p := fun c => ([48, 49, 50, 51, 52, 53, 54, 55, 56, 57] : List UInt8).contains c = dC c) (by decide +kernel) c
  simp only [hd]
  exact trim_nil dC w
theorem number_f (w : List UInt8) (hs : w.length ≤ 1000) {lo hi : Nat} (h1 : 1 ≤ lo) (h2 : hi ≤ 10) : stamp_number.f (B w) (lo : Int) (hi : Int) = some (nmS w lo hi) := by
  have hz : (B w).size = w.length := B_size w
  unfold stamp_number.f nmS
  rw [hz]
  by_cases c1 : w.length < lo
  · rw [if_pos (by omega), if_neg (by omega)]
  · rw [if_neg (by omega)]
    by_cases c2 : hi < w.length
    · rw [if_pos (by omega), if_neg (by omega)]
    · rw [if_neg (by omega)]
      obtain ⟨t, ht, hd⟩ := trim_dig w hs
      rw [ht, Option.bind_some, show (B t).toList = t from by rw [toL, L_B]]
      by_cases c3 : w.all dC = true
      · rw [if_pos (hd.2 c3)]
        have hp := parse_dig c3 (by omega) (by omega)
        by_cases c4 : lo < w.length
        · rw [if_pos (by omega), if_pos (by omega), hp]
          cases w with
          | nil => simp at c4
          | cons c r =>
            have hb : bt (B (c :: r)) 0 = (c.toNat : Int) := bt_of (s := B (c :: r)) (n := 0) (l := r) (by rw [L_B]; rfl)
            rw [hb]
            by_cases c5 : c = 48
            · subst c5
              rw [if_pos (by rfl), if_neg (fun h => h.2.2.2 c4 rfl)]
            · rw [if_neg (show ¬ (c.toNat : Int) = 48 from fun e => c5 ((c_eq c 48).1 e)), if_pos ⟨by omega, by omega, c3, fun _ e => c5 (by simpa using e)⟩]; rfl
        · rw [if_neg (by omega), hp, if_pos ⟨by omega, by omega, c3, fun h => absurd h c4⟩]; rfl
      · rw [if_neg (fun e => c3 (hd.1 e)), if_neg (fun h => c3 h.2.2.1)]
/-! ### names -/
def wdN (i : Nat) : List UInt8 := L (wdT.getD i ByteArray.empty)
def moN (i : Nat) : List UInt8 := L (moT.getD i ByteArray.empty)
theorem ix_any : ∀ (zs : List ByteArray) (x : ByteArray) (i : Nat), (∃ k, k < zs.length ∧ zs.getD k ByteArray.empty = x ∧ Lib.idxFromS zs x i = ((i + k : Nat) : Int)) ∨ Lib.idxFromS zs x i = -1
  | [], _, _ => .inr rfl
  | z :: zs, x, i => by
    unfold Lib.idxFromS
    by_cases h : z = x
    · rw [if_pos h]; exact .inl ⟨0, by simp, h, rfl⟩
    · rw [if_neg h]
      rcases ix_any zs x (i + 1) with ⟨k, h1, h2, h3⟩ | h1
      · exact .inl ⟨k + 1, by simp; omega, h2, by rw [h3]; congr 1; omega⟩
      · exact .inr h1
def ixW (n : List UInt8) : Int := Lib.idxOfS wdT (B n)
def ixM (n : List UInt8) : Int := Lib.idxOfS moT (B n)
theorem ixW_N (i : Nat) (h : i < 7) : ixW (wdN i) = (i : Int) := by
  have : ∀ i : Fin 7, Lib.idxOfS wdT (wdT.getD i.val ByteArray.empty) = (i.val : Int) := by decide +kernel
  unfold ixW wdN
  rw [B_L]
  exact this ⟨i, h⟩
theorem ixM_N (i : Nat) (h : i < 12) : ixM (moN i) = (i : Int) := by
  have : ∀ i : Fin 12, Lib.idxOfS moT (moT.getD i.val ByteArray.empty) = (i.val : Int) := by decide +kernel
  unfold ixM moN
  rw [B_L]
  exact this ⟨i, h⟩
theorem ixW_ge {n : List UInt8} (h : 0 ≤ ixW n) : ∃ i, i < 7 ∧ n = wdN i := by
  rcases ix_any wdT (B n) 0 with ⟨k, h1, h2, h3⟩ | h1
  · exact ⟨k, h1, by unfold wdN; rw [h2, L_B]⟩
  · unfold ixW Lib.idxOfS at h; omega
theorem ixM_ge {n : List UInt8} (h : 0 ≤ ixM n) : ∃ i, i < 12 ∧ n = moN i := by
  rcases ix_any moT (B n) 0 with ⟨k, h1, h2, h3⟩ | h1
  · exact ⟨k, h1, by unfold moN; rw [h2, L_B]⟩
  · unfold ixM Lib.idxOfS at h; omega
theorem wdN_len (i : Nat) (h : i < 7) : (wdN i).length = 3 ∧ (32 : UInt8) ∉ wdN i := by
  have : ∀ i : Fin 7, (wdN i.val).length = 3 ∧ (32 : UInt8) ∉ wdN i.val := by decide +kernel
  exact this ⟨i, h⟩
theorem moN_len (i : Nat) (h : i < 12) : (moN i).length = 3 ∧ (32 : UInt8) ∉ moN i := by
  have : ∀ i : Fin 12, (moN i.val).length = 3 ∧ (32 : UInt8) ∉ moN i.val := by decide +kernel
  exact this ⟨i, h⟩
/-! ### a date's text in pieces -/
structure Pc where
  i : Nat
  j : Nat
  D : List UInt8
  Y : List UInt8
  H : List UInt8
  M : List UInt8
  S : List UInt8
structure Pc.Ok (p : Pc) : Prop where
  i7 : p.i < 7
  j12 : p.j < 12
  D2 : p.D.length = 2 ∧ p.D.all dC = true
  Y4 : 4 ≤ p.Y.length ∧ p.Y.length ≤ 10 ∧ p.Y.all dC = true ∧ (4 < p.Y.length → p.Y.head? ≠ some 48)
  H2 : p.H.length = 2 ∧ p.H.all dC = true
  M2 : p.M.length = 2 ∧ p.M.all dC = true
  S2 : p.S.length = 2 ∧ p.S.all dC = true
def zoL : List UInt8 := [43, 48, 48, 48, 48]
def Pc.clock (p : Pc) : List UInt8 := p.H ++ 58 :: (p.M ++ 58 :: p.S)
def Pc.txt (p : Pc) : List UInt8 := wdN p.i ++ 44 :: 32 :: (p.D ++ 32 :: (moN p.j ++ 32 :: (p.Y ++ 32 :: (p.clock ++ 32 :: zoL))))
/-- What a date of these numbers is: its tick, or ErrRange. -/
def vl7 (i : Int) (d : Int) (j : Nat) (y h m s : Int) : Int × Int :=
  if 1970 ≤ y ∧ 1 ≤ d ∧ d ≤ ln (leapY y) j ∧ h ≤ 23 ∧ m ≤ 59 ∧ s ≤ 59 ∧ 86400 * (ah y + cum (leapY y) j + d - 1) + 3600 * h + 60 * m + s ≤ 1099511627776 ∧ (ah y + cum (leapY y) j + d - 1 + 4) % 7 = i
  then (86400 * (ah y + cum (leapY y) j + d - 1) + 3600 * h + 60 * m + s, 0) else (0, 24)
def Pc.val (p : Pc) : Int × Int := vl7 p.i (dgN 0 p.D) p.j (dgN 0 p.Y) (dgN 0 p.H) (dgN 0 p.M) (dgN 0 p.S)
/-! ### the program's tick of a date's numbers -/
theorem ln_le (b : Bool) {j : Nat} (h : j < 12) : ln b j ≤ 31 := by
  have : ∀ b : Bool, ∀ j : Fin 12, ln b j.val ≤ 31 := by decide
  exact this b ⟨j, h⟩
theorem cum_nn (b : Bool) {j : Nat} (h : j ≤ 12) : 0 ≤ cum b j ∧ cum b j ≤ 366 := by
  have : ∀ b : Bool, ∀ j : Fin 13, 0 ≤ cum b j.val ∧ cum b j.val ≤ 366 := by decide
  exact this b ⟨j, by omega⟩
theorem ah_bd {y : Int} (h0 : 1970 ≤ y) (h1 : y ≤ 9999999999) : 0 ≤ ah y ∧ ah y ≤ 3800000000000 := by
  have := ah_ge (y - 1970).toNat
  rw [show (1970 : Int) + ((y - 1970).toNat : Int) = y by omega] at this
  refine ⟨by omega, ?_⟩
  unfold ah
  omega
theorem pd_l0 {i d y h m s : Int} {j : Nat} (hj : j < 12) (hy0 : 1970 ≤ y) (hy : y ≤ 9999999999) (hd0 : 1 ≤ d) (hd : d ≤ ln (leapY y) j) (hh0 : 0 ≤ h) (hh : h ≤ 23) (hm0 : 0 ≤ m) (hm : m ≤ 59) (hs0 : 0 ≤ s) (hs : s ≤ 59) (x1 x2 x3 : Int) : ∀ (n k : Nat), k + n = j →
    Ev (fun q => stamp_ParseDate.l0 q y (ah y + cum (leapY y) k + d - 1) (j : Int) (k : Int) i x1 x2 x3 h m s) (vl7 i d j y h m s) := by
  have ha := ah_bd hy0 hy
  have hl := ln_le (leapY y) hj
  intro n
  induction n with
  | zero =>
    intro k hk
    obtain rfl : k = j := by omega
    have hc := cum_nn (leapY y) (show k ≤ 12 by omega)
    refine Ev.eq (f := fun _ => some (vl7 i d k y h m s)) (fun q => ?_) (Ev.pure _)
    simp only [stamp_ParseDate.l0]
    obtain ⟨T, hT⟩ : ∃ T, T = ah y + cum (leapY y) k + d - 1 := ⟨_, rfl⟩
    have hT0 : 0 ≤ T := by omega
    have hT1 : T ≤ 3900000000000 := by omega
    rw [← hT, if_neg (by omega), wk (x := T * 86400) (by omega) (by omega), wk (x := h * 3600) (by omega) (by omega), wk (x := T * 86400 + h * 3600) (by omega) (by omega), wk (x := m * 60) (by omega) (by omega), wk (x := T * 86400 + h * 3600 + m * 60) (by omega) (by omega), wk (x := T * 86400 + h * 3600 + m * 60 + s) (by omega) (by omega), wk (x := T + 4) (by omega) (by omega), tm (by omega)]
    unfold vl7
    rw [← hT]
    have e : T * 86400 + h * 3600 + m * 60 + s = 86400 * T + 3600 * h + 60 * m + s := by omega
    rw [e]
    by_cases c1 : 86400 * T + 3600 * h + 60 * m + s > 1099511627776
    · rw [if_pos c1, if_neg (by omega)]
    · rw [if_neg c1]
      by_cases c2 : (T + 4) % 7 = i
      · rw [if_pos c2, if_pos ⟨hy0, hd0, hd, hh, hm, hs, by omega, c2⟩]
      · rw [if_neg c2, if_neg (fun g => c2 g.2.2.2.2.2.2.2)]
  | succ n ih =>
    intro k hk
    have hc := cum_nn (leapY y) (show k ≤ 12 by omega)
    have hlk := ln_le (leapY y) (show k < 12 by omega)
    have hlp := ln_pos (leapY y) k (by omega)
    have hc1 : cum (leapY y) (k + 1) = cum (leapY y) k + ln (leapY y) k := rfl
    refine Ev.eq (f := fun q => stamp_ParseDate.l0 q y (ah y + cum (leapY y) (k + 1) + d - 1) (j : Int) ((k + 1 : Nat) : Int) i x1 x2 x3 h m s) (fun q => ?_) (ih (k + 1) (by omega))
    simp only [stamp_ParseDate.l0]
    rw [if_pos (by omega), length_f (by omega) (by omega), Option.bind_some, wk (by omega) (by omega), wk (x := (k : Int) + 1) (by omega) (by omega), show ah y + cum (leapY y) k + d - 1 + ln (leapY y) k = ah y + cum (leapY y) (k + 1) + d - 1 by omega]
    rfl
theorem pd_good {l : ByteArray} {i d y h m s : Int} {j : Nat} (hp : Ev (fun q => stamp_parts.f q l) (i, d, (j : Int), y, h, m, s, true)) (hj : j < 12) (hy0 : 0 ≤ y) (hy : y ≤ 9999999999) (hd0 : 0 ≤ d) (hd : d < 100) (hh0 : 0 ≤ h) (hh : h < 100) (hm0 : 0 ≤ m) (hm : m < 100) (hs0 : 0 ≤ s) (hs : s < 100) :
    Ev (fun q => stamp_ParseDate.f q l) (vl7 i d j y h m s) := by
  have bad : ∀ a b c : Int, ¬ (1970 ≤ y ∧ 1 ≤ d ∧ d ≤ ln (leapY y) j ∧ h ≤ 23 ∧ m ≤ 59 ∧ s ≤ 59) → Ev (fun q => stamp_ParseDate.j0 q y (j : Int) true i a b c h m s) (vl7 i d j y h m s) := by
    intro a b c hn
    refine Ev.eq (f := fun _ => some (0, 24)) (fun q => by simp only [stamp_ParseDate.j0, if_true]) ?_
    unfold vl7
    rw [if_neg (fun g => hn ⟨g.1, g.2.1, g.2.2.1, g.2.2.2.1, g.2.2.2.2.1, g.2.2.2.2.2.1⟩)]
    exact Ev.pure _
  unfold stamp_ParseDate.f
  refine Ev.bind2 hp ?_
  simp only [if_true]
  by_cases c1 : y < 1970
  · simp only [if_pos c1]; exact bad _ _ _ (by omega)
  · simp only [if_neg c1]
    by_cases c2 : d < 1
    · simp only [if_pos c2]; exact bad _ _ _ (by omega)
    · simp only [if_neg c2]
      refine Ev.bindc (length_f (by omega) hj) ?_
      by_cases c3 : d > ln (leapY y) j
      · simp only [if_pos c3]; exact bad _ _ _ (by omega)
      · simp only [if_neg c3]
        by_cases c4 : h > 23
        · simp only [if_pos c4]; exact bad _ _ _ (by omega)
        · simp only [if_neg c4]
          by_cases c5 : m > 59
          · simp only [if_pos c5]; exact bad _ _ _ (by omega)
          · simp only [if_neg c5]
            by_cases c6 : s > 59
            · rw [decide_eq_true c6]; exact bad _ _ _ (by omega)
            · rw [decide_eq_false c6]
              have ha := ah_bd (y := y) (by omega) hy
              have key := pd_l0 (i := i) hj (show 1970 ≤ y by omega) hy (show 1 ≤ d by omega) (by omega) hh0 (show h ≤ 23 by omega) hm0 (show m ≤ 59 by omega) hs0 (show s ≤ 59 by omega) d (j : Int) y j 0 (by omega)
              refine Ev.eq (f := fun q => stamp_ParseDate.l0 q y (ah y + cum (leapY y) 0 + d - 1) (j : Int) ((0 : Nat) : Int) i d (j : Int) y h m s) (fun q => ?_) key
              simp only [stamp_ParseDate.j0, Bool.false_eq_true, if_false]
              rw [ahead_f (by omega) (by omega), Option.bind_some, wk (x := ah y + d) (by omega) (by omega), wk (x := ah y + d - 1) (by omega) (by omega), show ah y + cum (leapY y) 0 + d - 1 = ah y + d - 1 by simp [cum]]
              rfl
theorem pd_bad {l : ByteArray} {i d j y h m s : Int} (hp : Ev (fun q => stamp_parts.f q l) (i, d, j, y, h, m, s, false)) : Ev (fun q => stamp_ParseDate.f q l) (0, 5) := by
  unfold stamp_ParseDate.f
  refine Ev.bind2 hp ?_
  simp only [Bool.false_eq_true, if_false]
  exact Ev.pure _
/-! ### the program's parts -/
theorem split_one {s : ByteArray} (hs : s.size ≤ 1000000) (c : UInt8) : strings_Split.f s (B [c]) = some ((Lib.split (L s) [c]).map B) := by
  unfold strings_Split.f
  rw [if_pos ⟨by omega, by rw [B_size]; simp⟩]
  congr 1
  have h := Lib.splitB_data (B [c]) 0 (Lib.countB s (B [c])) s
  have h2 : (Lib.splitB (B [c]) 0 (Lib.countB s (B [c])) s).map L = Lib.split (L s) [c] := h
  rw [← h2, List.map_map]
  conv => lhs; rw [← List.map_id (Lib.splitB _ _ _ _)]
  exact List.map_congr_left (fun x _ => (B_L x).symm)
theorem mem_first {c : UInt8} : ∀ {l : List UInt8}, c ∈ l → ∃ a b, c ∉ a ∧ l = a ++ c :: b
  | [], h => by cases h
  | x :: l, h => by
    by_cases hx : x = c
    · exact ⟨[], l, by simp, by rw [hx]; rfl⟩
    · have hm : c ∈ l := by
        rcases List.mem_cons.1 h with e | e
        · exact absurd e.symm hx
        · exact e
      obtain ⟨a, b, h1, h2⟩ := mem_first hm
      exact ⟨x :: a, b, by simp only [List.mem_cons, not_or]; exact ⟨fun e => hx e.symm, h1⟩, by rw [h2]; rfl⟩
theorem split_cases (c : UInt8) (l : List UInt8) : (c ∉ l ∧ Lib.split l [c] = [l]) ∨ (∃ a b, c ∉ a ∧ l = a ++ c :: b ∧ Lib.split l [c] = a :: Lib.split b [c]) := by
  by_cases h : c ∈ l
  · right
    obtain ⟨a, b, h1, rfl⟩ := mem_first h
    refine ⟨a, b, h1, rfl, ?_⟩
    have hi : Lib.index (a ++ c :: b) [c] = (a.length : Int) := ix_hit (t := []) h1
    rw [split_hit (by simp) hi, List.take_left, List.length_singleton, ← List.drop_drop, List.drop_left]; rfl
  · left
    refine ⟨h, ?_⟩
    have hi : Lib.index l [c] = -1 := ix_miss (t := []) h
    unfold Lib.split
    rw [Lib.count_miss hi]; rfl
theorem split_free (c : UInt8) : ∀ (N : Nat) (l : List UInt8), l.length ≤ N → ∀ a ∈ Lib.split l [c], c ∉ a := by
  intro N
  induction N with
  | zero =>
    intro l h a ha
    rcases split_cases c l with ⟨h1, h2⟩ | ⟨x, y, h1, rfl, h2⟩
    · rw [h2] at ha; rw [List.mem_singleton.1 ha]; exact h1
    · simp at h
  | succ N ih =>
    intro l h a ha
    rcases split_cases c l with ⟨h1, h2⟩ | ⟨x, y, h1, rfl, h2⟩
    · rw [h2] at ha; rw [List.mem_singleton.1 ha]; exact h1
    · rw [h2] at ha
      simp only [List.length_append, List.length_cons] at h
      rcases List.mem_cons.1 ha with rfl | ha
      · exact h1
      · exact ih y (by omega) a ha
theorem cutsuf_yes (n : List UInt8) (hs : n.length ≤ 1000000) : strings_CutSuffix.f (B (n ++ [44])) (⟨#[44]⟩ : ByteArray) = some (B n, true) := by
  have hz : (B (n ++ [44])).size = n.length + 1 := by rw [B_size]; simp
  have hp : (⟨#[44]⟩ : ByteArray).size = 1 := rfl
  unfold strings_CutSuffix.f stringslite_CutSuffix.f stringslite_HasSuffix.f
  rw [hz, hp, if_pos (by omega), wk (by omega) (by omega), if_pos (by omega), if_pos (by omega), Option.bind_some, show (((n.length + 1 : Nat) : Int) - ((1 : Nat) : Int)).toNat = n.length by omega]
  have e : ((B (n ++ [44])).extract n.length (n.length + 1)).toList = [44] := by
    rw [toL, L_ext, L_B, List.drop_left]; simp
  rw [e, show (([44] : List UInt8) == (⟨#[44]⟩ : ByteArray).toList) = true by rw [toL]; rfl, if_pos rfl, if_pos (by omega), if_pos (by omega), Option.bind_some]
  have e2 : (B (n ++ [44])).extract 0 n.length = B n := L_inj (by rw [L_ext, L_B, L_B]; simp)
  rw [e2]
theorem cutsuf_no (w : List UInt8) (hs : w.length ≤ 1000000) (h : ∀ n, w ≠ n ++ [44]) : strings_CutSuffix.f (B w) (⟨#[44]⟩ : ByteArray) = some (B w, false) := by
  have hz : (B w).size = w.length := B_size w
  have hp : (⟨#[44]⟩ : ByteArray).size = 1 := rfl
  unfold strings_CutSuffix.f stringslite_CutSuffix.f stringslite_HasSuffix.f
  rw [hz, hp]
  by_cases c : 1 ≤ w.length
  · rw [if_pos (by omega), wk (by omega) (by omega), if_pos (by omega), if_pos (by omega), Option.bind_some]
    have e : (((B w).extract ((w.length : Int) - ((1 : Nat) : Int)).toNat w.length).toList == (⟨#[44]⟩ : ByteArray).toList) = false := by
      rw [beq_eq_false_iff_ne]
      intro e
      rw [toL, toL, L_ext, L_B, show (L (⟨#[44]⟩ : ByteArray)) = [44] from rfl, show ((w.length : Int) - ((1 : Nat) : Int)).toNat = w.length - 1 by omega, List.take_of_length_le (by rw [List.length_drop]; omega)] at e
      exact h (w.take (w.length - 1)) (by rw [← e, List.take_append_drop])
    rw [e]
    simp only [Bool.false_eq_true, if_false, Option.bind_some]
  · rw [if_neg (by omega), Option.bind_some]
    simp only [Bool.false_eq_true, if_false, Option.bind_some]
theorem rd_of {l : List (List UInt8)} {n : Nat} {a : List UInt8} (h : l[n]? = some a) : rdOf ByteArray.empty (l.map B) (n : Int) = B a := by
  unfold rdOf
  rw [Int.toNat_natCast, List.getD_eq_getElem?_getD, List.getElem?_map, h]; rfl
theorem parts_six {l a b c d e f : List UInt8} (hl : l.length ≤ 1000) (hw : Lib.split l [32] = [a, b, c, d, e, f]) :
    (f = zoL ∧ (∃ n, a = n ++ [44]) ∧ (∃ x y z, Lib.split e [58] = [x, y, z])) ∨ Ev (fun q => stamp_parts.f q (B l)) (0, 0, 0, 0, 0, 0, 0, false) := by
  have hj := split_join (sep := [32]) (by simp) _ l (Nat.le_refl _)
  rw [hw] at hj
  have hlen : a.length ≤ 1000 ∧ e.length ≤ 1000 := by
    have := congrArg List.length hj
    simp only [join_cons2, Lib.join_one, List.length_append, List.length_cons] at this
    omega
  have hs := split_one (s := B l) (by rw [B_size]; omega) 32
  rw [L_B, hw] at hs
  have z6 : ((([a, b, c, d, e, f] : List (List UInt8)).map B).length : Int) = 6 := rfl
  have r5 := rd_of (l := [a, b, c, d, e, f]) (n := 5) rfl
  have r4 := rd_of (l := [a, b, c, d, e, f]) (n := 4) rfl
  have r0 := rd_of (l := [a, b, c, d, e, f]) (n := 0) rfl
  have hjb : ∀ ws : List ByteArray, Ev (fun q => stamp_parts.j0 q ws true 0 0 0 0 0 0 0) (0, 0, 0, 0, 0, 0, 0, false) := fun ws => Ev.eq (f := fun _ => some _) (fun q => by simp only [stamp_parts.j0, if_true]) (Ev.pure _)
  have hj1 : ∀ (ws xs : List ByteArray) (x : ByteArray), Ev (fun q => stamp_parts.j1 q ws xs x true 0 0 0 0 0 0 0) (0, 0, 0, 0, 0, 0, 0, false) := fun ws xs x => Ev.eq (f := fun _ => some _) (fun q => by simp only [stamp_parts.j1, if_true]) (Ev.pure _)
  by_cases hf : f = zoL
  · have hse := split_one (s := B e) (by rw [B_size]; omega) 58
    rw [L_B] at hse
    have hbody : Ev (fun q => stamp_parts.j0 q (([a, b, c, d, e, f] : List (List UInt8)).map B) false 0 0 0 0 0 0 0) (0, 0, 0, 0, 0, 0, 0, false) → Ev (fun q => stamp_parts.f q (B l)) (0, 0, 0, 0, 0, 0, 0, false) := by
      intro k
      unfold stamp_parts.f
      refine Ev.bindc hs ?_
      simp only [z6, if_true, if_pos (show (5 : Int) < 6 by omega)]
      have : ((rdOf ByteArray.empty (([a, b, c, d, e, f] : List (List UInt8)).map B) 5).toList != ([43, 48, 48, 48, 48] : List UInt8)) = false := by
        rw [show (5 : Int) = ((5 : Nat) : Int) from rfl, r5, toL, L_B, hf]; rfl
      rw [this]
      exact k
    by_cases hn : ∃ n, a = n ++ [44]
    · by_cases hx : ∃ x y z, Lib.split e [58] = [x, y, z]
      · exact .inl ⟨hf, hn, hx⟩
      · right
        apply hbody
        obtain ⟨n, rfl⟩ := hn
        have hc := cutsuf_yes n (by simp at hlen; omega)
        have h3 : ¬ (((Lib.split e [58]).map B).length : Int) = 3 := by
          rw [List.length_map]
          intro e3
          apply hx
          match h : Lib.split e [58], e3 with
          | [x, y, z], _ => exact ⟨x, y, z, rfl⟩
        refine Ev.eq (f := fun q => stamp_parts.j1 q (([n ++ [44], b, c, d, e, f] : List (List UInt8)).map B) ((Lib.split e [58]).map B) (B n) true 0 0 0 0 0 0 0) (fun q => ?_) (hj1 _ _ _)
        simp only [stamp_parts.j0, z6, Bool.false_eq_true, if_false]
        rw [if_pos (by omega), show (4 : Int) = ((4 : Nat) : Int) from rfl, r4, show (⟨#[58]⟩ : ByteArray) = B [58] from rfl, hse, Option.bind_some, if_pos (by omega), show (0 : Int) = ((0 : Nat) : Int) from rfl, r0, hc, Option.bind_some, if_neg h3]
    · right
      apply hbody
      have hc := cutsuf_no a (by omega) (fun n e => hn ⟨n, e⟩)
      refine Ev.eq (f := fun q => stamp_parts.j1 q (([a, b, c, d, e, f] : List (List UInt8)).map B) ((Lib.split e [58]).map B) (B a) true 0 0 0 0 0 0 0) (fun q => ?_) (hj1 _ _ _)
      simp only [stamp_parts.j0, z6, Bool.false_eq_true, if_false]
      rw [if_pos (by omega), show (4 : Int) = ((4 : Nat) : Int) from rfl, r4, show (⟨#[58]⟩ : ByteArray) = B [58] from rfl, hse, Option.bind_some, if_pos (by omega), show (0 : Int) = ((0 : Nat) : Int) from rfl, r0, hc, Option.bind_some]
      simp only [Bool.not_false, ite_self]
  · right
    unfold stamp_parts.f
    refine Ev.bindc hs ?_
    simp only [z6, if_true, if_pos (show (5 : Int) < 6 by omega)]
    have : ((rdOf ByteArray.empty (([a, b, c, d, e, f] : List (List UInt8)).map B) 5).toList != ([43, 48, 48, 48, 48] : List UInt8)) = true := by
      rw [show (5 : Int) = ((5 : Nat) : Int) from rfl, r5, toL, L_B, bne_iff_ne]; exact hf
    rw [this]
    exact hjb _
theorem parts_all {l n b c d e x y z : List UInt8} (hl : l.length ≤ 1000) (hw : Lib.split l [32] = [n ++ [44], b, c, d, e, zoL]) (he : Lib.split e [58] = [x, y, z]) :
    Ev (fun q => stamp_parts.f q (B l)) (ixW n, nmS b 2 2, ixM c, nmS d 4 10, nmS x 2 2, nmS y 2 2, nmS z 2 2, !(decide (ixW n < 0) || (decide (nmS b 2 2 < 0) || (decide (ixM c < 0) || (decide (nmS d 4 10 < 0) || (decide (nmS x 2 2 < 0) || (decide (nmS y 2 2 < 0) || decide (nmS z 2 2 < 0)))))))) := by
  have hj := split_join (sep := [32]) (by simp) _ l (Nat.le_refl _)
  rw [hw] at hj
  have hlen : n.length ≤ 1000 ∧ b.length ≤ 1000 ∧ d.length ≤ 1000 ∧ e.length ≤ 1000 := by
    have := congrArg List.length hj
    simp only [join_cons2, Lib.join_one, List.length_append, List.length_cons] at this
    omega
  have hje := split_join (sep := [58]) (by simp) _ e (Nat.le_refl _)
  rw [he] at hje
  have hlen2 : x.length ≤ 1000 ∧ y.length ≤ 1000 ∧ z.length ≤ 1000 := by
    have := congrArg List.length hje
    simp only [join_cons2, Lib.join_one, List.length_append, List.length_cons] at this
    omega
  have hs := split_one (s := B l) (by rw [B_size]; omega) 32
  rw [L_B, hw] at hs
  have hse := split_one (s := B e) (by rw [B_size]; omega) 58
  rw [L_B, he] at hse
  have hc := cutsuf_yes n (by omega)
  have z6 : ((([n ++ [44], b, c, d, e, zoL] : List (List UInt8)).map B).length : Int) = 6 := rfl
  have z3 : ((([x, y, z] : List (List UInt8)).map B).length : Int) = 3 := rfl
  have r5 := rd_of (l := [n ++ [44], b, c, d, e, zoL]) (n := 5) rfl
  have r4 := rd_of (l := [n ++ [44], b, c, d, e, zoL]) (n := 4) rfl
  have r3 := rd_of (l := [n ++ [44], b, c, d, e, zoL]) (n := 3) rfl
  have r2 := rd_of (l := [n ++ [44], b, c, d, e, zoL]) (n := 2) rfl
  have r1 := rd_of (l := [n ++ [44], b, c, d, e, zoL]) (n := 1) rfl
  have r0 := rd_of (l := [n ++ [44], b, c, d, e, zoL]) (n := 0) rfl
  have s2 := rd_of (l := [x, y, z]) (n := 2) rfl
  have s1 := rd_of (l := [x, y, z]) (n := 1) rfl
  have s0 := rd_of (l := [x, y, z]) (n := 0) rfl
  generalize hW : (([n ++ [44], b, c, d, e, zoL] : List (List UInt8)).map B) = W at hs z6 r5 r4 r3 r2 r1 r0
  generalize hX : (([x, y, z] : List (List UInt8)).map B) = X at hse z3 s2 s1 s0
  have n1 := number_f b (by omega) (lo := 2) (hi := 2) (by omega) (by omega)
  have n3 := number_f d (by omega) (lo := 4) (hi := 10) (by omega) (by omega)
  have nx := number_f x (by omega) (lo := 2) (hi := 2) (by omega) (by omega)
  have ny := number_f y (by omega) (lo := 2) (hi := 2) (by omega) (by omega)
  have nz := number_f z (by omega) (lo := 2) (hi := 2) (by omega) (by omega)
  have hany : ∀ v0 v1 v2 v3 v4 v5 v6 : Int, slices_ContainsFunc_int64_int64__stamp_parts_1.f [v0, v1, v2, v3, v4, v5, v6] = some (decide (v0 < 0) || (decide (v1 < 0) || (decide (v2 < 0) || (decide (v3 < 0) || (decide (v4 < 0) || (decide (v5 < 0) || decide (v6 < 0))))))) := by
    intro v0 v1 v2 v3 v4 v5 v6
    unfold slices_ContainsFunc_int64_int64__stamp_parts_1.f
    have := anyF_all (p := fun x => stamp_parts_1.f x) (f := fun v => decide (v < 0)) [v0, v1, v2, v3, v4, v5, v6] (fun _ _ => rfl)
    rw [this]
    simp
  unfold stamp_parts.f
  refine Ev.bindc hs ?_
  simp only [z6, if_true, if_pos (show (5 : Int) < 6 by omega)]
  have hzo : ((rdOf ByteArray.empty W 5).toList != ([43, 48, 48, 48, 48] : List UInt8)) = false := by
    rw [show (5 : Int) = ((5 : Nat) : Int) from rfl, r5, toL, L_B]; rfl
  rw [hzo]
  refine Ev.eq (f := fun q => stamp_parts.j1 q W X (B n) false 0 0 0 0 0 0 0) (fun q => ?_) ?_
  · simp only [stamp_parts.j0, z6, Bool.false_eq_true, if_false]
    rw [if_pos (by omega), show (4 : Int) = ((4 : Nat) : Int) from rfl, r4, show (⟨#[58]⟩ : ByteArray) = B [58] from rfl, hse, Option.bind_some, if_pos (by omega), show (0 : Int) = ((0 : Nat) : Int) from rfl, r0, hc, Option.bind_some, if_pos z3]
    rfl
  · refine Ev.eq (f := fun _ => some _) (fun q => ?_) (Ev.pure _)
    simp only [stamp_parts.j1, z6, z3, Bool.false_eq_true, if_false]
    have iw : slices_Index_string_string.f wdT (B n) = some (ixW n) := rfl
    have im : slices_Index_string_string.f moT (B c) = some (ixM c) := rfl
    rw [show rdOf ByteArray.empty W 1 = B b from r1, show rdOf ByteArray.empty W 2 = B c from r2, show rdOf ByteArray.empty W 3 = B d from r3, show rdOf ByteArray.empty X 0 = B x from s0, show rdOf ByteArray.empty X 1 = B y from s1, show rdOf ByteArray.empty X 2 = B z from s2]
    rw [iw, Option.bind_some, if_pos (by omega), show stamp_number.f (B b) 2 2 = some (nmS b 2 2) from n1, Option.bind_some, if_pos (by omega), im, Option.bind_some, if_pos (by omega), show stamp_number.f (B d) 4 10 = some (nmS d 4 10) from n3, Option.bind_some, if_pos (by omega), show stamp_number.f (B x) 2 2 = some (nmS x 2 2) from nx, Option.bind_some, if_pos (by omega), show stamp_number.f (B y) 2 2 = some (nmS y 2 2) from ny, Option.bind_some, if_pos (by omega), show stamp_number.f (B z) 2 2 = some (nmS z 2 2) from nz, Option.bind_some, hany, Option.bind_some]
theorem dig_free {l : List UInt8} (h : l.all dC = true) {c : UInt8} (hc : dC c = false) : c ∉ l := fun hm => by
  have := List.all_eq_true.1 h c hm
  rw [hc] at this; cases this
/-- What is no date's text is none; what is one, is its tick, or out of range. -/
theorem code_f (l : List UInt8) (hl : l.length ≤ 1000) : (∀ p : Pc, p.Ok → l = p.txt → Ev (fun q => stamp_ParseDate.f q (B l)) p.val) ∧ ((∀ p : Pc, p.Ok → l ≠ p.txt) → Ev (fun q => stamp_ParseDate.f q (B l)) (0, 5)) := by
  have hsm : ∀ w : List UInt8, w.length = 2 ∧ w.all dC = true → 0 ≤ (dgN 0 w : Int) ∧ (dgN 0 w : Int) < 100 := fun w h => by
    have := dgN_small h.2 (n := 2) (by omega)
    have e : (10 : Nat) ^ 2 = 100 := rfl
    omega
  constructor
  · intro p ok e
    obtain ⟨hD, hDd⟩ := ok.D2
    obtain ⟨hY1, hY2, hYd, hY4⟩ := ok.Y4
    obtain ⟨hH, hHd⟩ := ok.H2
    obtain ⟨hM, hMd⟩ := ok.M2
    obtain ⟨hS, hSd⟩ := ok.S2
    have w3 := wdN_len p.i ok.i7
    have m3 := moN_len p.j ok.j12
    have f32 : ∀ w : List UInt8, w.all dC = true → (32 : UInt8) ∉ w := fun w h => dig_free h (by decide)
    have f58 : ∀ w : List UInt8, w.all dC = true → (58 : UInt8) ∉ w := fun w h => dig_free h (by decide)
    have hck : (32 : UInt8) ∉ p.clock := by
      unfold Pc.clock
      simp only [List.mem_append, List.mem_cons, not_or]
      exact ⟨f32 _ hHd, by decide, f32 _ hMd, by decide, f32 _ hSd⟩
    have hw : Lib.split l [32] = [wdN p.i ++ [44], p.D, moN p.j, p.Y, p.clock, zoL] := by
      have := split_parts (c := 32) (t := []) [wdN p.i ++ [44], p.D, moN p.j, p.Y, p.clock, zoL] (by simp) (fun a ha => by
        simp only [List.mem_cons, List.not_mem_nil, or_false] at ha
        rcases ha with rfl | rfl | rfl | rfl | rfl | rfl
        · simp only [List.mem_append, List.mem_singleton, not_or]; exact ⟨w3.2, by decide⟩
        · exact f32 _ hDd
        · exact m3.2
        · exact f32 _ hYd
        · exact hck
        · decide)
      rw [← this, e]
      congr 1
      simp only [join_cons2, Lib.join_one]
      unfold Pc.txt
      simp
    have he : Lib.split p.clock [58] = [p.H, p.M, p.S] := by
      have := split_parts (c := 58) (t := []) [p.H, p.M, p.S] (by simp) (fun a ha => by
        simp only [List.mem_cons, List.not_mem_nil, or_false] at ha
        rcases ha with rfl | rfl | rfl
        · exact f58 _ hHd
        · exact f58 _ hMd
        · exact f58 _ hSd)
      rw [← this]
      congr 1
      unfold Pc.clock
      simp only [join_cons2, Lib.join_one]
      simp
    have key := parts_all hl hw he
    rw [ixW_N _ ok.i7, ixM_N _ ok.j12, nmS_eq (by omega) (by omega) hDd (fun h => by omega), nmS_eq hY1 hY2 hYd hY4, nmS_eq (w := p.H) (by omega) (by omega) hHd (fun h => by omega), nmS_eq (w := p.M) (by omega) (by omega) hMd (fun h => by omega), nmS_eq (w := p.S) (by omega) (by omega) hSd (fun h => by omega)] at key
    have hz : ∀ n : Nat, decide ((n : Int) < 0) = false := fun n => decide_eq_false (by omega)
    simp only [hz, Bool.or_false, Bool.not_false] at key
    have hy := dgN_small hYd hY2
    have e10 : (10 : Nat) ^ 10 = 10000000000 := rfl
    have aD := hsm _ ok.D2
    have aH := hsm _ ok.H2
    have aM := hsm _ ok.M2
    have aS := hsm _ ok.S2
    exact pd_good key ok.j12 (by omega) (by omega) aD.1 aD.2 aH.1 aH.2 aM.1 aM.2 aS.1 aS.2
  · intro hno
    have hj := split_join (sep := [32]) (by simp) _ l (Nat.le_refl _)
    have hfr := split_free 32 _ l (Nat.le_refl _)
    by_cases h6 : (Lib.split l [32]).length = 6
    · obtain ⟨a, b, c, d, e, f, hw⟩ : ∃ a b c d e f, Lib.split l [32] = [a, b, c, d, e, f] := by
        match h : Lib.split l [32], h6 with
        | [a, b, c, d, e, f], _ => exact ⟨a, b, c, d, e, f, rfl⟩
      rcases parts_six hl hw with ⟨rfl, ⟨n, rfl⟩, x, y, z, he⟩ | hb
      · have key := parts_all hl hw he
        by_cases hall : (decide (ixW n < 0) || (decide (nmS b 2 2 < 0) || (decide (ixM c < 0) || (decide (nmS d 4 10 < 0) || (decide (nmS x 2 2 < 0) || (decide (nmS y 2 2 < 0) || decide (nmS z 2 2 < 0))))))) = true
        · rw [hall] at key
          exact pd_bad key
        · exfalso
          simp only [Bool.or_eq_true, decide_eq_true_eq, not_or, Int.not_lt] at hall
          obtain ⟨h0, h1, h2, h3, h4, h5, h6⟩ := hall
          obtain ⟨i, hi, rfl⟩ := ixW_ge h0
          obtain ⟨j, hjj, rfl⟩ := ixM_ge h2
          have g1 := nmS_ge h1
          have g3 := nmS_ge h3
          have g4 := nmS_ge h4
          have g5 := nmS_ge h5
          have g6 := nmS_ge h6
          refine hno ⟨i, j, b, d, x, y, z⟩ ⟨hi, hjj, ⟨Nat.le_antisymm g1.2.1 g1.1, g1.2.2.1⟩, g3, ⟨Nat.le_antisymm g4.2.1 g4.1, g4.2.2.1⟩, ⟨Nat.le_antisymm g5.2.1 g5.1, g5.2.2.1⟩, ⟨Nat.le_antisymm g6.2.1 g6.1, g6.2.2.1⟩⟩ ?_
          have hje := split_join (sep := [58]) (by simp) _ e (Nat.le_refl _)
          rw [he] at hje
          rw [hw] at hj
          rw [← hj]
          unfold Pc.txt Pc.clock
          simp only [join_cons2, Lib.join_one] at hje ⊢
          rw [← hje]
          simp
      · exact pd_bad hb
    · refine pd_bad (i := 0) (d := 0) (j := 0) (y := 0) (h := 0) (m := 0) (s := 0) ?_
      have hs := split_one (s := B l) (by rw [B_size]; omega) 32
      rw [L_B] at hs
      unfold stamp_parts.f
      refine Ev.bindc hs ?_
      simp only [if_neg (show ¬ (((Lib.split l [32]).map B).length : Int) = 6 by rw [List.length_map]; omega)]
      exact Ev.eq (f := fun _ => some _) (fun q => by simp only [stamp_parts.j0, if_true]) (Ev.pure _)
end Go.Proofs.YtoigafnaoaafeaaDoor.S
