/- Addresses as lists of bytes: what a domain, an address is; no program in sight. -/
import Derived.Test.YtgelfnjicglmbaaGreatDoorTB
import Derived.Test.YtgelfnjicglmbaaGreatDoorSP
import Derived.Lib.AppendIntMem
namespace Go.Proofs.YtgelfnjicglmbaaGreatDoor.S
open Go.RowKit Go.Proofs.YtgelfnjicglmbaaGreatDoor.Q Go.Proofs.YtgelfnjicglmbaaGreatDoorW.PrintWords Go.Proofs.YtgelfnjicglmbaaGreatDoorW.PrintLast Go.Proofs.YtgelfnjicglmbaaGreatDoorW.PrintMore
set_option linter.unusedVariables false
set_option linter.unusedSimpArgs false
def leC (c : UInt8) : Bool := (decide (97 ≤ c.toNat) && decide (c.toNat ≤ 122)) || (decide (65 ≤ c.toNat) && decide (c.toNat ≤ 90)) || (decide (48 ≤ c.toNat) && decide (c.toNat ≤ 57))
def lbC (c : UInt8) : Bool := leC c || c == 45
def hosts : List UInt8 := [97, 98, 99, 100, 101, 102, 103, 104, 105, 106, 107, 108, 109, 110, 111, 112, 113, 114, 115, 116, 117, 118, 119, 120, 121, 122, 65, 66, 67, 68, 69, 70, 71, 72, 73, 74, 75, 76, 77, 78, 79, 80, 81, 82, 83, 84, 85, 86, 87, 88, 89, 90, 48, 49, 50, 51, 52, 53, 54, 55, 56, 57, 45]
theorem hosts_C : ∀ c : UInt8, hosts.contains c = lbC c := byte_all (by decide +kernel)
/-- A label, but for its length. -/
def lbB (p : List UInt8) : Bool := !p.isEmpty && p.all lbC && (p.head? != some 45) && (p.getLast? != some 45)
def digB (c : UInt8) : Bool := decide (48 ≤ c.toNat) && decide (c.toNat ≤ 57)
def valL (l : List UInt8) : Int := l.foldl (fun n c => 10 * n + ((c.toNat : Int) - 48)) 0
/-- A number of at most three digits, up to 255, without noughts ahead. -/
def ocB (p : List UInt8) : Bool := !p.isEmpty && decide (p.length ≤ 3) && p.all digB && decide (valL p ≤ 255) && (decide (p.length ≤ 1) || (p.head? != some 48))
def partsL (l : List UInt8) : List (List UInt8) := spL 46 l []
def liB (l : List UInt8) : Bool := decide ((partsL l).length = 4) && (partsL l).all ocB
/-- What is wrong with a domain: 0, 3, 5. -/
def dmL (l : List UInt8) : Nat :=
 if l.head? = some 91 then (if 2 ≤ l.length ∧ l.getLast? = some 93 ∧ liB (l.tail.dropLast) = true then 0 else 5)
 else if (partsL l).all lbB = true then (if 255 < l.length ∨ (partsL l).any (fun p => decide (63 < p.length)) = true then 3 else 0) else 5
theorem split_sp (c : UInt8) : ∀ (N : Nat) (l : List UInt8), l.length ≤ N → Lib.split l [c] = spL c l []
 | 0, l, h => by
  have : l = [] := List.eq_nil_of_length_eq_zero (by omega)
  subst this
  rw [split_miss (ix_miss (by simp))]
  simp [spL]
 | N + 1, l, h => by
  by_cases hc : c ∈ l
  ·obtain ⟨a, b, rfl, ha⟩ := List.append_of_mem hc |> fun ⟨s, t, e⟩ => (show ∃ a b, l = a ++ c :: b ∧ c ∉ a from by
    have hx : 0 ≤ Lib.indexByte l c := by
     rcases Int.lt_or_le (Lib.indexByte l c) 0 with h1 | h1
     ·exact absurd hc (ix_none h1)
     ·exact h1
    obtain ⟨h1, h2, h3⟩ := ix_some (l := l) (c := c) (k := (Lib.indexByte l c).toNat) (by omega)
    exact ⟨_, _, (List.take_append_drop (Lib.indexByte l c).toNat l).symm.trans (by rw [h3]), h2⟩)
   have e1 := split_hit (s := a ++ c :: b) (sep := [c]) (i := a.length) (by simp) (ix_hit (t := []) ha)
   rw [e1, sp_some a b [] ha]
   simp only [List.take_left, List.length_singleton, List.nil_append]
   congr 1
   rw [show (a ++ c :: b).drop (a.length + 1) = b by rw [← List.drop_drop, List.drop_left]; rfl]
   exact split_sp c N b (by simp at h; omega)
  ·rw [split_miss (ix_miss hc), sp_none l [] hc]
   rfl
theorem sp_count (c : UInt8) : ∀ (l cur : List UInt8), (spL c l cur).length = l.count c + 1
 | [], cur => by simp [spL]
 | x :: t, cur => by
  unfold spL
  by_cases h : x = c
  ·subst h
   rw [if_pos rfl, List.length_cons, sp_count x t [], List.count_cons_self]
  ·rw [if_neg h, sp_count c t _, List.count_cons_of_ne h]
/-- Itoa of a number of at most three digits is that text just without noughts ahead. -/
theorem itoa3 : ∀ a b c : Fin 10, (decide (Lib.itoa (valL [UInt8.ofNat (48 + a.val)]) = [UInt8.ofNat (48 + a.val)]) = true)
  ∧ (decide (Lib.itoa (valL [UInt8.ofNat (48 + a.val), UInt8.ofNat (48 + b.val)]) = [UInt8.ofNat (48 + a.val), UInt8.ofNat (48 + b.val)]) = !decide (a.val = 0))
  ∧ (decide (Lib.itoa (valL [UInt8.ofNat (48 + a.val), UInt8.ofNat (48 + b.val), UInt8.ofNat (48 + c.val)]) = [UInt8.ofNat (48 + a.val), UInt8.ofNat (48 + b.val), UInt8.ofNat (48 + c.val)]) = !decide (a.val = 0)) := by
 decide +kernel
theorem dig_fin {c : UInt8} (h : digB c = true) : ∃ a : Fin 10, c = UInt8.ofNat (48 + a.val) := by
 unfold digB at h
 simp only [Bool.and_eq_true, decide_eq_true_eq] at h
 refine ⟨⟨c.toNat - 48, by omega⟩, ?_⟩
 rw [show 48 + (c.toNat - 48) = c.toNat by omega]
 exact (UInt8.ofNat_toNat).symm
theorem dig0 (a : Fin 10) : (some (UInt8.ofNat (48 + a.val)) != some 48) = !decide (a.val = 0) := by
 revert a; decide +kernel
theorem itoa_oc {p : List UInt8} (h0 : p ≠ []) (h1 : p.length ≤ 3) (h2 : p.all digB = true) : decide (Lib.itoa (valL p) = p) = (decide (p.length ≤ 1) || (p.head? != some 48)) := by
 match p, h0, h1, h2 with
 | [x], _, _, h2 =>
  simp only [List.all_cons, List.all_nil, Bool.and_true] at h2
  obtain ⟨a, rfl⟩ := dig_fin h2
  rw [(itoa3 a 0 0).1]; simp
 | [x, y], _, _, h2 =>
  simp only [List.all_cons, List.all_nil, Bool.and_true, Bool.and_eq_true] at h2
  obtain ⟨a, rfl⟩ := dig_fin h2.1
  obtain ⟨b, rfl⟩ := dig_fin h2.2
  rw [(itoa3 a b 0).2.1, ← dig0 a]
  rfl
 | [x, y, z], _, _, h2 =>
  simp only [List.all_cons, List.all_nil, Bool.and_true, Bool.and_eq_true] at h2
  obtain ⟨a, rfl⟩ := dig_fin h2.1
  obtain ⟨b, rfl⟩ := dig_fin h2.2.1
  obtain ⟨c, rfl⟩ := dig_fin h2.2.2
  rw [(itoa3 a b c).2.2, ← dig0 a]
  rfl
 | _ :: _ :: _ :: _ :: _, _, h1, _ => simp at h1
/-! ### An address's text -/
def atHead (l : List UInt8) : List UInt8 := l.takeWhile (· != 64)
def lowA (l : List UInt8) : List UInt8 := l.map lowC
def pmL : List UInt8 := [112, 111, 115, 116, 109, 97, 115, 116, 101, 114]
/-- What stands ahead of the @, how long that is, and whether it is such. -/
def lcL (l : List UInt8) : List UInt8 × Nat × Bool :=
 if l.head? = some 34 then ((qd l).1, (qd l).2.1, decide ((qd l).2.2 = 0) && !(qd l).1.isEmpty) else (atHead l, (atHead l).length, dtL (atHead l) true)
/-- An address's parts, and what is wrong with the text: 0, 3, 5. -/
def paL (l : List UInt8) : List UInt8 × List UInt8 × Nat :=
 if (lcL l).2.2 = true ∧ (l.drop (lcL l).2.1).head? = some 64 then
  (if dmL ((l.drop (lcL l).2.1).tail) = 5 then ([], [], 5) else if dmL ((l.drop (lcL l).2.1).tail) = 0 ∧ (lcL l).1.length ≤ 64 then ((lcL l).1, (l.drop (lcL l).2.1).tail, 0) else ([], [], 3))
 else ([], [], 5)
def noL (a : List UInt8 × List UInt8) : List UInt8 × List UInt8 := (if lowA a.1 = pmL then pmL else a.1, lowA a.2)
end Go.Proofs.YtgelfnjicglmbaaGreatDoor.S
