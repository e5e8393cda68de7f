/- Stamps read: what the functions tell, in plain words. -/
import Derived.Test.YtoigafnaoaafeaaGreatDoorP
import Derived.Lib.Case
import Derived.Test.YtoigafnaoaafeaaGreatDoorQx0
namespace Go.Proofs.YtoigafnaoaafeaaGreatDoor.S
open Go.RowKit Go.Proofs.YtoigafnaoaafeaaGreatDoor.Q Go.Proofs.YtoigafnaoaafeaaGreatDoorW.PrintWords Go.Proofs.YtoigafnaoaafeaaGreatDoorW.PrintLast Go.Proofs.YtoigafnaoaafeaaGreatDoorW.PrintMore
set_option linter.unusedVariables false
set_option linter.unusedSimpArgs false
/-- A letter's number; below 0: it is none. -/
def upC (c : UInt8) : UInt8 := if 97 ≤ c.toNat ∧ c.toNat ≤ 122 then UInt8.ofNat (c.toNat - 32) else c
def vL (c : UInt8) : Int := Lib.indexByte ltL (upC c)
def prS : List UInt8 → Int × Int
  | [a, b] => if vL a < 0 then (0, 5) else if vL b < 0 then (0, 5) else (32 * vL a + vL b, 0)
  | _ => (0, 5)
theorem vL_facts (c : UInt8) : vL c < 0 ∨ (0 ≤ vL c ∧ vL c < 32 ∧ c.toNat < 128 ∧ ltL.getD (vL c).toNat 0 = Lib.upperB c) := by
  refine byte_all (p := fun c => vL c < 0 ∨ (0 ≤ vL c ∧ vL c < 32 ∧ c.toNat < 128 ∧ ltL.getD (vL c).toNat 0 = Lib.upperB c)) ?_ c
  decide +kernel
theorem vL_lt {i : Int} (h0 : 0 ≤ i) (h1 : i < 32) : vL (ltL.getD i.toNat 0) = i ∧ vL (Lib.lowerB (ltL.getD i.toNat 0)) = i ∧ (ltL.getD i.toNat 0).toNat < 128 := by
  have : ∀ j : Fin 32, vL (ltL.getD j.val 0) = (j.val : Int) ∧ vL (Lib.lowerB (ltL.getD j.val 0)) = (j.val : Int) ∧ (ltL.getD j.val 0).toNat < 128 := by decide +kernel
  have e := this ⟨i.toNat, by omega⟩
  have ei : ((i.toNat : Nat) : Int) = i := by omega
  exact ⟨e.1.trans ei, e.2.1.trans ei, e.2.2⟩
theorem or_step {a b : Int} (ha0 : 0 ≤ a) (ha : a < 32) (hb0 : 0 ≤ b) (hb : b < 32) : Go.bits .or .i64 (wrap64 (a * 32)) b = 32 * a + b := by
  have : ∀ i j : Fin 32, Go.bits .or .i64 ((i.val : Int) * 32) (j.val : Int) = 32 * (i.val : Int) + (j.val : Int) := by decide +kernel
  have e := this ⟨a.toNat, by omega⟩ ⟨b.toNat, by omega⟩
  have ea : ((a.toNat : Nat) : Int) = a := by omega
  have eb : ((b.toNat : Nat) : Int) = b := by omega
  simp only [ea, eb] at e
  rw [wk (by omega) (by omega)]
  exact e
theorem up_num (c : UInt8) : (if 97 ≤ c.toNat ∧ c.toNat ≤ 122 then ((c.toNat : Int) - 32) % 256 else (c.toNat : Int)).toNat.toUInt8 = upC c := by
  refine byte_all (p := fun c => (if 97 ≤ c.toNat ∧ c.toNat ≤ 122 then ((c.toNat : Int) - 32) % 256 else (c.toNat : Int)).toNat.toUInt8 = upC c) ?_ c
  decide +kernel
theorem parse_step {s : ByteArray} (hs : s.size = 2) {i : Nat} {c : UInt8} (hi : i < 2) (hc : bt s (i : Int) = (c.toNat : Int)) (x : Int) (k : Nat) :
    stamp_Parse.l0 (k + 2) s x 2 (i : Int) = if vL c < 0 then some (0, 5) else stamp_Parse.l0 k s (Go.bits .or .i64 (wrap64 (x * 32)) (vL c)) 2 ((i + 1 : Nat) : Int) := by
  have hu := up_num c
  have hv : ∀ r, strings_IndexByte.f (⟨#[65, 66, 67, 68, 69, 70, 71, 72, 73, 74, 75, 76, 77, 78, 79, 80, 81, 82, 83, 84, 85, 86, 87, 88, 89, 90, 50, 51, 52, 53, 54, 55]⟩ : ByteArray) r = some (Lib.indexByte ltL r.toNat.toUInt8) := fun r => rfl
  have hw : wrap64 ((i : Int) + 1) = ((i + 1 : Nat) : Int) := w1 hi (by omega)
  simp only [stamp_Parse.l0]
  rw [if_pos (by omega), if_pos (by omega), if_pos (by omega), hc]
  by_cases h1 : 97 ≤ c.toNat
  · rw [if_pos (by omega)]
    by_cases h2 : c.toNat ≤ 122
    · rw [if_pos ⟨h1, h2⟩] at hu
      simp only [stamp_Parse.j1]
      rw [if_pos (decide_eq_true (by omega)), hv, hu, Option.bind_some, hw]
      rfl
    · rw [if_neg (by omega)] at hu
      simp only [stamp_Parse.j1]
      rw [if_neg (by simp; omega), hv, hu, Option.bind_some, hw]
      rfl
  · rw [if_neg (by omega)]
    rw [if_neg (by omega)] at hu
    simp only [stamp_Parse.j1]
    rw [if_neg (by simp), hv, hu, Option.bind_some, hw]
    rfl
theorem parse_f (s : ByteArray) : Ev (fun k => stamp_Parse.f k s) (prS (L s)) := by
  unfold stamp_Parse.f
  by_cases hs : s.size = 2
  · have hl : (L s).length = 2 := by rw [L_len]; exact hs
    obtain ⟨a, b, hab⟩ : ∃ a b, L s = [a, b] := by
      match h : L s, hl with
      | [a, b], _ => exact ⟨a, b, rfl⟩
    have h0 : bt s ((0 : Nat) : Int) = (a.toNat : Int) := bt_of (l := [b]) (by rw [hab]; rfl)
    have h1 : bt s ((1 : Nat) : Int) = (b.toNat : Int) := bt_of (l := []) (by rw [hab]; rfl)
    refine ⟨6, fun k hk => ?_⟩
    obtain ⟨k, rfl⟩ : ∃ q, k = q + 1 + 2 + 2 := ⟨k - 5, by omega⟩
    dsimp only
    rw [if_pos (by omega), show (s.size : Int) = 2 by omega]
    have e0 := parse_step hs (by omega) h0 0 (k + 1 + 2)
    rw [show ((0 : Nat) : Int) = 0 from rfl] at e0
    rw [e0, hab, show prS [a, b] = (if vL a < 0 then ((0, 5) : Int × Int) else if vL b < 0 then (0, 5) else (32 * vL a + vL b, 0)) from rfl]
    by_cases ca : vL a < 0
    · rw [if_pos ca, if_pos ca]
    · rw [if_neg ca, if_neg ca]
      have fa := (vL_facts a).resolve_left ca
      have o0 : Go.bits .or .i64 (wrap64 (0 * 32)) (vL a) = vL a := by rw [or_step (by omega) (by omega) fa.1 fa.2.1]; omega
      rw [o0, parse_step hs (by omega) h1]
      by_cases cb : vL b < 0
      · rw [if_pos cb, if_pos cb]
      · rw [if_neg cb, if_neg cb]
        have fb := (vL_facts b).resolve_left cb
        rw [or_step fa.1 fa.2.1 fb.1 fb.2.1]
        simp only [stamp_Parse.l0]
        rw [if_neg (by omega)]
  · refine Ev.cong (f := fun _ => some (0, 5)) (fun k => by rw [if_neg (by omega)]) ?_
    have : prS (L s) = (0, 5) := by
      have hl : (L s).length ≠ 2 := by rw [L_len]; exact hs
      match h : L s, hl with
      | [], _ => rfl
      | [a], _ => rfl
      | [a, b], hl => exact absurd rfl hl
      | a :: b :: c :: l, _ => rfl
    rw [this]
    exact Ev.pure _
theorem prS_st {n : Int} (h0 : 0 ≤ n) (h1 : n < 1024) : prS (stL n) = (n, 0) := by
  have ha := (vL_lt (i := n / 32) (by omega) (by omega)).1
  have hb := (vL_lt (i := n % 32) (by omega) (by omega)).1
  unfold stL prS
  dsimp only
  rw [ha, hb, if_neg (by omega), if_neg (by omega)]
  congr 1
  omega
theorem prS_lower {n : Int} (h0 : 0 ≤ n) (h1 : n < 1024) : prS (Lib.toLowerA (stL n)) = (n, 0) := by
  have ha := (vL_lt (i := n / 32) (by omega) (by omega)).2.1
  have hb := (vL_lt (i := n % 32) (by omega) (by omega)).2.1
  unfold stL Lib.toLowerA prS
  simp only [List.map_cons, List.map_nil]
  rw [ha, hb, if_neg (by omega), if_neg (by omega)]
  congr 1
  omega
theorem stL_small {n : Int} (h0 : 0 ≤ n) (h1 : n < 1024) : ((stL n).all fun b => decide (b.toNat < 128)) = true := by
  have ha := (vL_lt (i := n / 32) (by omega) (by omega)).2.2
  have hb := (vL_lt (i := n % 32) (by omega) (by omega)).2.2
  unfold stL
  simp only [List.all_cons, List.all_nil, Bool.and_true, Bool.and_eq_true, decide_eq_true_eq]
  exact ⟨ha, hb⟩
theorem stL_inj {n m : Int} (h0 : 0 ≤ n) (h1 : n < 1024) (g0 : 0 ≤ m) (g1 : m < 1024) (h : stL n = stL m) : n = m := by
  have := (prS_st h0 h1).symm.trans ((congrArg prS h).trans (prS_st g0 g1))
  exact (Prod.mk.inj this).1
/-- What is read is a stamp, its letters great or small. -/
theorem prS_ok {l : List UInt8} {n : Int} (h : prS l = (n, 0)) : 0 ≤ n ∧ n < 1024 ∧ l.length = 2 ∧ (l.all fun b => decide (b.toNat < 128)) = true ∧ stL n = Lib.toUpperA l := by
  unfold prS at h
  split at h
  · rename_i a b
    split at h
    · simp at h
    · split at h
      · simp at h
      · rename_i ca cb
        have fa := (vL_facts a).resolve_left ca
        have fb := (vL_facts b).resolve_left cb
        obtain rfl := (Prod.mk.inj h).1
        refine ⟨by omega, by omega, rfl, by simp [fa.2.2.1, fb.2.2.1], ?_⟩
        unfold stL Lib.toUpperA
        simp only [List.map_cons, List.map_nil]
        rw [show (32 * vL a + vL b) / 32 = vL a by omega, show (32 * vL a + vL b) % 32 = vL b by omega, fa.2.2.2, fb.2.2.2]
  · simp at h
theorem prS_no {l : List UInt8} {x y : Int} (h : prS l = (x, y)) (hy : y ≠ 0) : x = 0 ∧ y = 5 := by
  unfold prS at h
  split at h
  · split at h
    · simp at h; omega
    · split at h
      · simp at h; omega
      · simp at h; omega
  · simp at h; omega
end Go.Proofs.YtoigafnaoaafeaaGreatDoor.S
