/- Dates there and back: plain facts. -/
import Derived.Test.YtoigafnaoaafeaaDoorPD
import Derived.Lib.ItoaNum
namespace Go.Proofs.YtoigafnaoaafeaaDoor.S
open Go.RowKit Go.Proofs.YtoigafnaoaafeaaDoor.Q Go.Proofs.YtoigafnaoaafeaaDoorW.PrintWords Go.Proofs.YtoigafnaoaafeaaDoorW.PrintLast Go.Proofs.YtoigafnaoaafeaaDoorW.PrintMore
set_option linter.unusedVariables false
set_option linter.unusedSimpArgs false
theorem dgN_snoc' : ∀ (l : List UInt8) (a : Nat) (c : UInt8), dgN a (l ++ [c]) = 10 * dgN a l + (c.toNat - 48)
  | [], a, c => rfl
  | x :: l, a, c => by
    rw [List.cons_append]
    exact dgN_snoc' l _ c
/-! ### numerals -/
theorem dig_of {d : Nat} (h : d < 10) : dC (UInt8.ofNat (48 + d)) = true ∧ (UInt8.ofNat (48 + d)).toNat - 48 = d ∧ (d ≠ 0 → UInt8.ofNat (48 + d) ≠ 48) := by
  have : ∀ d : Fin 10, dC (UInt8.ofNat (48 + d.val)) = true ∧ (UInt8.ofNat (48 + d.val)).toNat - 48 = d.val ∧ (d.val ≠ 0 → UInt8.ofNat (48 + d.val) ≠ 48) := by decide
  exact this ⟨d, h⟩
theorem of_dig {c : UInt8} (h : dC c = true) : UInt8.ofNat (48 + (c.toNat - 48)) = c ∧ c.toNat - 48 < 10 := by
  refine byte_all (p := fun c => dC c = true → UInt8.ofNat (48 + (c.toNat - 48)) = c ∧ c.toNat - 48 < 10) (by decide +kernel) c h
theorem dec_dg : ∀ (N u : Nat), u ≤ N → dgN 0 (Lib.decDigits u) = u ∧ (Lib.decDigits u).all dC = true ∧ (Lib.decDigits u) ≠ [] ∧ (u ≠ 0 → (Lib.decDigits u).head? ≠ some 48) := by
  intro N
  induction N with
  | zero =>
    intro u h
    obtain rfl : u = 0 := by omega
    rw [Lib.decDigits_one (by omega)]
    decide
  | succ N ih =>
    intro u h
    by_cases h10 : u < 10
    · obtain ⟨a, b, c⟩ := dig_of h10
      rw [Lib.decDigits_one h10]
      generalize UInt8.ofNat (48 + u) = x at a b c
      refine ⟨by show 10 * 0 + (x.toNat - 48) = u; omega, by simp [a], by simp, fun h0 => ?_⟩
      intro e
      exact c h0 (by simpa using e)
    · obtain ⟨i1, i2, i3, i4⟩ := ih (u / 10) (by omega)
      obtain ⟨a, b, c⟩ := dig_of (show u % 10 < 10 by omega)
      rw [Lib.decDigits, dif_neg h10]
      generalize UInt8.ofNat (48 + u % 10) = x at a b c
      refine ⟨by rw [dgN_snoc', i1, b]; omega, by rw [List.all_append, i2]; simp [a], by simp, fun _ => ?_⟩
      cases hd : Lib.decDigits (u / 10) with
      | nil => exact absurd hd i3
      | cons x t =>
        have := i4 (by omega)
        rw [hd] at this
        simpa using this
/-- Digits without a nought in front are their number's numeral. -/
theorem dg_dec : ∀ (N : Nat) (Y : List UInt8), Y.length ≤ N → Y ≠ [] → Y.all dC = true → Y.head? ≠ some 48 → Lib.decDigits (dgN 0 Y) = Y ∧ 1 ≤ dgN 0 Y := by
  intro N
  induction N with
  | zero => intro Y h hne; exact absurd (List.eq_nil_of_length_eq_zero (by omega)) hne
  | succ N ih =>
    intro Y h hne hd h48
    obtain ⟨Y', c, rfl⟩ : ∃ Y' c, Y = Y' ++ [c] := ⟨Y.dropLast, Y.getLast hne, (List.dropLast_concat_getLast hne).symm⟩
    rw [List.all_append] at hd
    simp only [List.all_cons, List.all_nil, Bool.and_true, Bool.and_eq_true] at hd
    obtain ⟨hc1, hc2⟩ := of_dig hd.2
    rw [dgN_snoc']
    by_cases he : Y' = []
    · subst he
      have hz : 10 * dgN 0 ([] : List UInt8) + (c.toNat - 48) = c.toNat - 48 := by show 10 * 0 + _ = _; omega
      rw [hz, Lib.decDigits_one hc2, hc1]
      refine ⟨rfl, ?_⟩
      have hcc := (dC_iff c).1 hd.2
      have : c.toNat ≠ 48 := fun e => h48 (by
        have : c = 48 := UInt8.toNat_inj.1 e
        rw [this]; rfl)
      omega
    · have hh : Y'.head? ≠ some 48 := by
        cases Y' with
        | nil => exact absurd rfl he
        | cons x t => simpa using h48
      simp only [List.length_append, List.length_cons, List.length_nil] at h
      obtain ⟨i1, i2⟩ := ih Y' (by omega) he hd.1 hh
      rw [Lib.decDigits, dif_neg (by omega), show (10 * dgN 0 Y' + (c.toNat - 48)) / 10 = dgN 0 Y' by omega, show (10 * dgN 0 Y' + (c.toNat - 48)) % 10 = c.toNat - 48 by omega, i1, hc1]
      exact ⟨rfl, by omega⟩
/-! ### two digits -/
theorem tw_dig {n : Int} (h0 : 0 ≤ n) (h1 : n < 100) : (tw n).all dC = true ∧ (dgN 0 (tw n) : Int) = n := by
  have : ∀ n : Fin 100, (tw (n.val : Int)).all dC = true ∧ dgN 0 (tw (n.val : Int)) = n.val := by decide +kernel
  have h := this ⟨n.toNat, by omega⟩
  simp only [show ((n.toNat : Nat) : Int) = n by omega] at h
  exact ⟨h.1, by rw [h.2]; omega⟩
theorem dig_tw {D : List UInt8} (hl : D.length = 2) (hd : D.all dC = true) : tw (dgN 0 D : Int) = D := by
  match D, hl with
  | [a, b], _ =>
    simp only [List.all_cons, List.all_nil, Bool.and_true, Bool.and_eq_true] at hd
    obtain ⟨a1, a2⟩ := of_dig hd.1
    obtain ⟨b1, b2⟩ := of_dig hd.2
    have : ∀ i j : Fin 10, tw (dgN 0 [UInt8.ofNat (48 + i.val), UInt8.ofNat (48 + j.val)] : Int) = [UInt8.ofNat (48 + i.val), UInt8.ofNat (48 + j.val)] := by decide +kernel
    have h := this ⟨a.toNat - 48, a2⟩ ⟨b.toNat - 48, b2⟩
    simp only [a1, b1] at h
    exact h
/-! ### a tick's date in pieces -/
def pcOf (day rest y : Int) (m : Nat) (d : Int) : Pc := ⟨((day + 4) % 7).toNat, m, tw (d + 1), Lib.itoa y, tw (rest / 3600), tw (rest / 60 % 60), tw (rest % 60)⟩
theorem pcOf_txt (day rest y : Int) (m : Nat) (d : Int) : (pcOf day rest y m d).txt = dateL day rest y m d := by
  unfold pcOf Pc.txt Pc.clock dateL clockL
  have e1 : wdN ((day + 4) % 7).toNat = wdL day := rfl
  have e2 : moN m = moL m := rfl
  simp only [e1, e2]
  simp [zoL]
theorem itoa_year {y : Int} (h0 : 1970 ≤ y) (h1 : y ≤ 40000) : 4 ≤ (Lib.itoa y).length ∧ (Lib.itoa y).length ≤ 10 ∧ (Lib.itoa y).all dC = true ∧ (Lib.itoa y).head? ≠ some 48 ∧ (dgN 0 (Lib.itoa y) : Int) = y := by
  obtain ⟨n, rfl⟩ : ∃ n : Nat, y = (n : Int) := ⟨y.toNat, by omega⟩
  have e : Lib.itoa (n : Int) = Lib.decDigits n := by unfold Lib.itoa; rw [if_neg (by omega), Int.toNat_natCast]
  obtain ⟨a, b, c, d⟩ := dec_dg n n (Nat.le_refl _)
  rw [e]
  refine ⟨?_, ?_, b, d (by omega), by rw [a]⟩
  · have hp := Lib.lt_pow_nDigits n
    rw [Lib.decDigits_length]
    rcases Nat.lt_or_ge (Lib.nDigits n) 4 with h | h
    · have : 10 ^ Lib.nDigits n ≤ 10 ^ 3 := Nat.pow_le_pow_right (by omega) (by omega)
      have e3 : (10 : Nat) ^ 3 = 1000 := rfl
      omega
    · exact h
  · have := itoa_len (y := (n : Int)) (by omega) (by omega)
    rw [e] at this
    omega
theorem pcOf_ok {day rest y : Int} {m : Nat} {d : Int} (H : Ymd day y m d) (hd : 0 ≤ day) (hr : 0 ≤ rest) (hr2 : rest < 86400) (hy : 1970 ≤ y) (hy2 : y ≤ 40000) : (pcOf day rest y m d).Ok := by
  have hl := ln_le (leapY y) H.m12
  have h0 := H.d0
  have h1 := H.d1
  obtain ⟨a1, a2, a3, a4, _⟩ := itoa_year hy hy2
  exact ⟨by show ((day + 4) % 7).toNat < 7; omega, H.m12, ⟨rfl, (tw_dig (n := d + 1) (by omega) (by omega)).1⟩, ⟨a1, a2, a3, fun _ => a4⟩, ⟨rfl, (tw_dig (n := rest / 3600) (by omega) (by omega)).1⟩, ⟨rfl, (tw_dig (n := rest / 60 % 60) (by omega) (by omega)).1⟩, ⟨rfl, (tw_dig (n := rest % 60) (by omega) (by omega)).1⟩⟩
theorem pcOf_val {day rest y : Int} {m : Nat} {d : Int} (H : Ymd day y m d) (hd : 0 ≤ day) (hr : 0 ≤ rest) (hr2 : rest < 86400) (hy : 1970 ≤ y) (hy2 : y ≤ 40000) (ht : 86400 * day + rest ≤ 1099511627776) : (pcOf day rest y m d).val = (86400 * day + rest, 0) := by
  have hl := ln_le (leapY y) H.m12
  have h0 := H.d0
  have h1 := H.d1
  have h2 := H.eq
  obtain ⟨_, _, _, _, a5⟩ := itoa_year hy hy2
  unfold Pc.val pcOf
  simp only []
  rw [a5, (tw_dig (n := d + 1) (by omega) (by omega)).2, (tw_dig (n := rest / 3600) (by omega) (by omega)).2, (tw_dig (n := rest / 60 % 60) (by omega) (by omega)).2, (tw_dig (n := rest % 60) (by omega) (by omega)).2]
  unfold vl7
  have e1 : ah y + cum (leapY y) m + (d + 1) - 1 = day := by omega
  rw [e1, if_pos ⟨hy, by omega, by omega, by omega, by omega, by omega, by omega, by omega⟩]
  congr 1
  omega
/-- What is read has just that text. -/
theorem val_back {p : Pc} (ok : p.Ok) {t : Int} (h : p.val = (t, 0)) : 0 ≤ t ∧ t ≤ 1099511627776 ∧ ∃ y m d, Ymd (t / 86400) y m d ∧ 1970 ≤ y ∧ y ≤ 40000 ∧ p.txt = dateL (t / 86400) (t % 86400) y m d := by
  obtain ⟨i, j, D, Y, H, M, S⟩ := p
  obtain ⟨hi, hj, ⟨hD, hDd⟩, ⟨hY1, hY2, hYd, hY4⟩, ⟨hH, hHd⟩, ⟨hM, hMd⟩, ⟨hS, hSd⟩⟩ := ok
  simp only [] at hi hj hD hDd hY1 hY2 hYd hY4 hH hHd hM hMd hS hSd
  unfold Pc.val vl7 at h
  simp only [] at h
  split at h
  · rename_i g
    obtain ⟨g1, g2, g3, g4, g5, g6, g7, g8⟩ := g
    simp only [Prod.mk.injEq, and_true] at h
    obtain ⟨T, hT⟩ : ∃ T, T = ah (dgN 0 Y : Int) + cum (leapY (dgN 0 Y : Int)) j + (dgN 0 D : Int) - 1 := ⟨_, rfl⟩
    rw [← hT] at h g7 g8
    have hc := cum_nn (leapY (dgN 0 Y : Int)) (show j ≤ 12 by omega)
    have ha := ah_ge ((dgN 0 Y : Int) - 1970).toNat
    rw [show (1970 : Int) + (((dgN 0 Y : Int) - 1970).toNat : Int) = (dgN 0 Y : Int) by omega] at ha
    have hq : t / 86400 = T ∧ t % 86400 = 3600 * (dgN 0 H : Int) + 60 * (dgN 0 M : Int) + (dgN 0 S : Int) := by omega
    have hYmd : Ymd T (dgN 0 Y : Int) j ((dgN 0 D : Int) - 1) := ⟨hj, by omega, by omega, by omega⟩
    refine ⟨by omega, by omega, (dgN 0 Y : Int), j, (dgN 0 D : Int) - 1, by rw [hq.1]; exact hYmd, g1, by omega, ?_⟩
    rw [hq.1, hq.2]
    have h48 : Y.head? ≠ some 48 := by
      intro e
      by_cases c : 4 < Y.length
      · exact hY4 c e
      · match Y, e with
        | y :: Y', e =>
          have hy0 : y = 48 := by simpa using e
          subst hy0
          simp only [List.length_cons] at hY1 c
          simp only [List.all_cons, Bool.and_eq_true] at hYd
          have h3 := dgN_small hYd.2 (n := 3) (by omega)
          have e0 : dgN 0 (48 :: Y') = dgN 0 Y' := rfl
          rw [e0] at g1
          have e3 : (10 : Nat) ^ 3 = 1000 := rfl
          omega
    have eY : Lib.itoa (dgN 0 Y : Int) = Y := by
      unfold Lib.itoa
      rw [if_neg (by omega), Int.toNat_natCast]
      exact (dg_dec Y.length Y (Nat.le_refl _) (fun e => by rw [e] at hY1; simp at hY1) hYd h48).1
    have eW : wdL T = wdN i := by
      unfold wdL wdN
      rw [show ((T + 4) % 7).toNat = i by omega]; rfl
    have eM : moL j = moN j := rfl
    obtain ⟨R, hR⟩ : ∃ R, R = 3600 * (dgN 0 H : Int) + 60 * (dgN 0 M : Int) + (dgN 0 S : Int) := ⟨_, rfl⟩
    unfold Pc.txt Pc.clock dateL clockL
    rw [← hR, eW, eM, eY, show (dgN 0 D : Int) - 1 + 1 = (dgN 0 D : Int) by omega, dig_tw hD hDd, show R / 3600 = (dgN 0 H : Int) by omega, dig_tw hH hHd, show R / 60 % 60 = (dgN 0 M : Int) by omega, dig_tw hM hMd, show R % 60 = (dgN 0 S : Int) by omega, dig_tw hS hSd]
    simp [zoL]
  · simp at h
end Go.Proofs.YtoigafnaoaafeaaDoor.S
