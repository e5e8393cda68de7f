/- Days, months, years: plain facts. -/
import Derived.Test.YtoigafnaoaafeaaDoorG
namespace Go.Proofs.YtoigafnaoaafeaaDoor.S
open Go.RowKit Go.Proofs.YtoigafnaoaafeaaDoor.Q
def leapY (y : Int) : Bool := decide (y % 4 = 0) && (decide (y % 100 ≠ 0) || decide (y % 400 = 0))
def ah (y : Int) : Int := 365 * (y - 1970) + ((y - 1) / 4 - (y - 1) / 100 + (y - 1) / 400) - 477
def ln (b : Bool) (m : Nat) : Int := if m = 1 then (if b then 29 else 28) else lnT.getD m 0
def cum (b : Bool) : Nat → Int
  | 0 => 0
  | m + 1 => cum b m + ln b m
theorem leapY_iff (y : Int) : leapY y = true ↔ (y % 4 = 0 ∧ (y % 100 ≠ 0 ∨ y % 400 = 0)) := by simp [leapY]
theorem ah_step (y : Int) : ah (y + 1) = ah y + cum (leapY y) 12 := by
  have hc : cum (leapY y) 12 = if leapY y = true then 366 else 365 := by cases leapY y <;> rfl
  rw [hc]
  unfold ah
  by_cases h : leapY y = true
  · rw [if_pos h]
    rw [leapY_iff] at h
    omega
  · rw [if_neg h]
    rw [leapY_iff] at h
    omega
theorem cum12 (y : Int) : 365 ≤ cum (leapY y) 12 ∧ cum (leapY y) 12 ≤ 366 := by cases leapY y <;> decide
theorem ln_pos (b : Bool) (m : Nat) (h : m < 12) : 28 ≤ ln b m := by
  have : ∀ b : Bool, ∀ m : Fin 12, 28 ≤ ln b m.val := by decide
  exact this b ⟨m, h⟩
theorem ah_add (y : Int) : ∀ n : Nat, ah y + 365 * n ≤ ah (y + n)
  | 0 => by simp
  | n + 1 => by
    have h := ah_add y n
    have h2 := ah_step (y + n)
    have h3 := cum12 (y + n)
    rw [show y + ((n + 1 : Nat) : Int) = y + n + 1 by omega]
    omega
theorem ah_le {y z : Int} (h : y ≤ z) : ah y ≤ ah z := by
  have := ah_add y (z - y).toNat
  rw [show y + ((z - y).toNat : Int) = z by omega] at this
  omega
theorem cum_add (b : Bool) (m : Nat) : ∀ n : Nat, m + n ≤ 12 → cum b m ≤ cum b (m + n)
  | 0, _ => by simp
  | n + 1, h => by
    have h1 := cum_add b m n (by omega)
    have h2 := ln_pos b (m + n) (by omega)
    show cum b m ≤ cum b (m + n) + ln b (m + n)
    omega
theorem cum_le (b : Bool) {m k : Nat} (h : m ≤ k) (hk : k ≤ 12) : cum b m ≤ cum b k := by
  have := cum_add b m (k - m) (by omega)
  rw [show m + (k - m) = k by omega] at this
  exact this
structure Ymd (day y : Int) (m : Nat) (d : Int) : Prop where
  m12 : m < 12
  d0 : 0 ≤ d
  d1 : d < ln (leapY y) m
  eq : day = ah y + cum (leapY y) m + d
theorem Ymd.year {day y : Int} {m : Nat} {d : Int} (h : Ymd day y m d) : ah y ≤ day ∧ day < ah (y + 1) := by
  have h1 := cum_le (leapY y) (Nat.zero_le m) (by have := h.m12; omega)
  have h2 := cum_le (leapY y) (show m + 1 ≤ 12 by have := h.m12; omega) (Nat.le_refl _)
  have h3 : cum (leapY y) (m + 1) = cum (leapY y) m + ln (leapY y) m := rfl
  have h4 := ah_step y
  have h5 : cum (leapY y) 0 = 0 := rfl
  have := h.d0; have := h.d1; have := h.eq
  omega
theorem Ymd.uniq {day y z : Int} {m k : Nat} {d e : Int} (h : Ymd day y m d) (g : Ymd day z k e) : y = z ∧ m = k ∧ d = e := by
  have hy := h.year
  have gy := g.year
  have hyz : y = z := by
    rcases Int.lt_trichotomy y z with c | c | c
    · have := ah_le (show y + 1 ≤ z by omega); omega
    · exact c
    · have := ah_le (show z + 1 ≤ y by omega); omega
  subst hyz
  have hmk : m = k := by
    have a := h.eq; have b := g.eq; have c1 := h.d0; have c2 := g.d0; have c3 := h.d1; have c4 := g.d1
    rcases Nat.lt_trichotomy m k with c | c | c
    · have q := cum_le (leapY y) (show m + 1 ≤ k by omega) (by have := g.m12; omega)
      have q2 : cum (leapY y) (m + 1) = cum (leapY y) m + ln (leapY y) m := rfl
      omega
    · exact c
    · have q := cum_le (leapY y) (show k + 1 ≤ m by omega) (by have := h.m12; omega)
      have q2 : cum (leapY y) (k + 1) = cum (leapY y) k + ln (leapY y) k := rfl
      omega
  subst hmk
  have a := h.eq; have b := g.eq
  exact ⟨rfl, rfl, by omega⟩
/-! ### A tick's date -/
def clT (t : Int) : Int := if t < 0 then 0 else if 1099511627776 < t then 1099511627776 else t
theorem clT_range (t : Int) : 0 ≤ clT t ∧ clT t ≤ 1099511627776 := by unfold clT; (repeat' split) <;> omega
/-- Two digits. -/
def tw (n : Int) : List UInt8 := [(48 + n / 10).toNat.toUInt8, (48 + n % 10).toNat.toUInt8]
def wdL (day : Int) : List UInt8 := (wdT.getD ((day + 4) % 7).toNat ByteArray.empty).data.toList
def moL (m : Nat) : List UInt8 := (moT.getD m ByteArray.empty).data.toList
def clockL (r : Int) : List UInt8 := tw (r / 3600) ++ ([58] ++ (tw (r / 60 % 60) ++ ([58] ++ tw (r % 60))))
def dateL (day rest y : Int) (m : Nat) (d : Int) : List UInt8 :=
  wdL day ++ ([44, 32] ++ (tw (d + 1) ++ ([32] ++ (moL m ++ ([32] ++ (Lib.itoa y ++ ([32] ++ (clockL rest ++ [32, 43, 48, 48, 48, 48]))))))))
def IsDate (t : Int) (r : List UInt8) : Prop := ∃ y m d, Ymd (clT t / 86400) y m d ∧ r = dateL (clT t / 86400) (clT t % 86400) y m d
theorem IsDate.uniq {t : Int} {r q : List UInt8} (h : IsDate t r) (g : IsDate t q) : r = q := by
  obtain ⟨y, m, d, h1, rfl⟩ := h
  obtain ⟨z, k, e, g1, rfl⟩ := g
  obtain ⟨rfl, rfl, rfl⟩ := h1.uniq g1
  rfl
open Classical in
noncomputable def dateOf (t : Int) : List UInt8 := if h : ∃ r, IsDate t r then h.choose else []
theorem dateOf_eq {t : Int} {r : List UInt8} (h : IsDate t r) : dateOf t = r := by
  have hx : ∃ r, IsDate t r := ⟨r, h⟩
  unfold dateOf
  rw [dif_pos hx]
  exact hx.choose_spec.uniq h
end Go.Proofs.YtoigafnaoaafeaaDoor.S
