/- Plain facts on texts as lists of bytes, and what the text layer tells of them: no program in sight. -/
import Derived.Test.YtgelfnjicglmbaaGreatDoorQx0
namespace Go.Proofs.YtgelfnjicglmbaaGreatDoor.S
open Go.RowKit Go.Proofs.YtgelfnjicglmbaaGreatDoorW.PrintWords Go.Proofs.YtgelfnjicglmbaaGreatDoorW.PrintLast Go.Proofs.YtgelfnjicglmbaaGreatDoorW.PrintMore
def L (s : ByteArray) : List UInt8 := s.data.toList
def B (l : List UInt8) : ByteArray := ⟨l.toArray⟩
theorem L_B (l : List UInt8) : L (B l) = l := by simp [L, B]
theorem B_L (s : ByteArray) : B (L s) = s := by obtain ⟨⟨l⟩⟩ := s; rfl
theorem L_len (s : ByteArray) : (L s).length = s.size := by rw [L, Array.length_toList]; rfl
theorem B_size (l : List UInt8) : (B l).size = l.length := by rw [← L_len, L_B]
theorem L_inj {a b : ByteArray} (h : L a = L b) : a = b := by rw [← B_L a, ← B_L b, h]
theorem toL (s : ByteArray) : s.toList = L s := ByteArray.toList_eq s
theorem B_app (a b : List UInt8) : B a ++ B b = B (a ++ b) := L_inj (by rw [L_B]; simp [L, B, ByteArray.data_append])
theorem app_B (s : ByteArray) (b : List UInt8) : s ++ B b = B (L s ++ b) := by rw [← B_L s, B_app, L_B]
theorem L_app (s t : ByteArray) : L (s ++ t) = L s ++ L t := by simp [L, ByteArray.data_append]
theorem L_ext (s : ByteArray) (a b : Nat) : L (s.extract a b) = ((L s).drop a).take (b - a) := by
 rw [L, ByteArray.data_extract, Array.toList_extract]
 rw [List.extract_eq_take_drop]; rfl
theorem ext_B (s : ByteArray) (a b : Nat) : s.extract a b = B (((L s).drop a).take (b - a)) := L_inj (by rw [L_ext, L_B])
theorem L_ext_end (s : ByteArray) (a : Nat) : L (s.extract a s.size) = (L s).drop a := by
 rw [L_ext, List.take_of_length_le]
 rw [List.length_drop, L_len]; exact Nat.le_refl _
theorem bt_of {s : ByteArray} {n : Nat} {c : UInt8} {l : List UInt8} (h : (L s).drop n = c :: l) : bt s (n : Int) = (c.toNat : Int) := by
 have hn : n < (L s).length := by
  rcases Nat.lt_or_ge n (L s).length with h' | h'
  ·exact h'
  ·rw [List.drop_eq_nil_of_le h'] at h; cases h
 have hc : (L s)[n] = c := by
  have := List.drop_eq_getElem_cons hn
  rw [h] at this; injection this with a _; exact a.symm
 have hn' : n < s.size := by rw [← L_len]; exact hn
 unfold bt
 rw [dif_pos (by simpa using hn')]
 rw [← hc]; simp [L]; rfl
theorem drop_lt {s : ByteArray} {n : Nat} {c : UInt8} {l : List UInt8} (h : (L s).drop n = c :: l) : n < s.size := by
 rcases Nat.lt_or_ge n (L s).length with h' | h'
 ·rw [← L_len]; exact h'
 ·rw [List.drop_eq_nil_of_le h'] at h; cases h
theorem drop_next {α : Type} {L : List α} {n : Nat} {c : α} {l : List α} (h : L.drop n = c :: l) : L.drop (n + 1) = l := by rw [← List.drop_drop, h]; rfl
theorem drop_size {s : ByteArray} {n : Nat} {l : List UInt8} (h : (L s).drop n = l) (hn : n ≤ s.size) : n + l.length = s.size := by
 rw [← h, List.length_drop, L_len]; omega
theorem drop_end {s : ByteArray} {n : Nat} (h : (L s).drop n = []) : s.size ≤ n := by
 have := congrArg List.length h
 rw [List.length_drop, L_len] at this; simp at this; omega
theorem w1 {n m : Nat} (h : n < m) (hm : m ≤ 140737488351232) : wrap64 ((n : Int) + 1) = ((n + 1 : Nat) : Int) := by unfold wrap64; omega
theorem wk {x : Int} (h0 : -4611686018427387904 ≤ x) (h1 : x ≤ 4611686018427387904) : wrap64 x = x := by unfold wrap64; omega
theorem c_eq (c d : UInt8) : ((c.toNat : Int) = (d.toNat : Int)) ↔ c = d := by rw [Int.ofNat_inj, UInt8.toNat_inj]
theorem mn_le (a b : Int) : mn a b ≤ a ∧ mn a b ≤ b ∧ (mn a b = a ∨ mn a b = b) := by unfold mn; split <;> omega
theorem byte_all {p : UInt8 → Prop} (h : ∀ i : Fin 256, p (UInt8.ofNat i.val)) (c : UInt8) : p c := by
 have := h ⟨c.toNat, UInt8.toNat_lt c⟩
 rwa [show UInt8.ofNat c.toNat = c from UInt8.ofNat_toNat] at this
theorem Ev.to {α : Type} {g : Nat → Option α} {r : α} (h : Ev g r) : ∃ k, g k = some r := h.rounds
theorem Ev.pure {α : Type} (r : α) : Ev (fun _ => some r) r := Ev.now r
theorem Ev.eq {α : Type} {g f : Nat → Option α} {r : α} (h : ∀ k, g (k + 1) = f k) (k : Ev f r) : Ev g r := Ev.step h k
theorem Ev.cong {α : Type} {g f : Nat → Option α} {r : α} (h : ∀ k, g k = f k) (k : Ev f r) : Ev g r := by
 obtain ⟨K, hK⟩ := k
 exact ⟨K, fun k hk => (h k).trans (hK k hk)⟩
theorem Ev.bind2 {α β : Type} {g : Nat → Option α} {f : Nat → α → Option β} {a : α} {r : β} (h : Ev g a) (k : Ev (fun n => f n a) r) : Ev (fun n => (g n).bind (f n)) r := Ev.bind h k
theorem Ev.bindc {α β : Type} {g : Option α} {f : Nat → α → Option β} {a : α} {r : β} (h : g = some a) (k : Ev (fun n => f n a) r) : Ev (fun n => g.bind (f n)) r := by
 subst h; exact k
def plC (c : UInt8) : Bool := decide (32 ≤ c.toNat) && decide (c.toNat ≤ 126)
def qtC (c : UInt8) : List UInt8 := if c = 34 ∨ c = 92 then [92, c] else [c]
def qtM (l : List UInt8) : List UInt8 := l.flatMap qtC
def qdL : List UInt8 → List UInt8 → Nat → List UInt8 × Nat × Nat
 | [], _, _ => ([], 0, 4)
 | c :: l, out, n =>
  if c = 34 then (out, n + 1, 0)
  else if c = 92 then
   match l with
   | [] => ([], 0, 4)
   | d :: l' => if plC d then qdL l' (out ++ [d]) (n + 2) else ([], 0, 5)
  else if plC c then qdL l (out ++ [c]) (n + 1) else ([], 0, 5)
def qd (l : List UInt8) : List UInt8 × Nat × Nat :=
 match l with
 | c :: l => if c = 34 then qdL l [] 1 else ([], 0, 5)
 | [] => ([], 0, 5)
def cmL : List UInt8 → Nat → Nat → Nat × Nat
 | [], _, _ => (0, 4)
 | c :: l, d, n =>
  if c = 40 then (if 8 < d + 1 then (0, 3) else cmL l (d + 1) (n + 1))
  else if c = 41 then (if d = 1 then (n + 1, 0) else cmL l (d - 1) (n + 1))
  else if c = 92 then
   match l with
   | [] => (0, 4)
   | e :: l' => if plC e then cmL l' d (n + 2) else (0, 5)
  else if c = 9 then cmL l d (n + 1)
  else if plC c then cmL l d (n + 1) else (0, 5)
def cm (l : List UInt8) : Nat × Nat :=
 match l with
 | c :: l => if c = 40 then cmL l 1 1 else (0, 5)
 | [] => (0, 5)
def blL (l : List UInt8) (n : Nat) : Nat × Nat :=
 match l with
 | [] => (n, 0)
 | c :: t =>
  if c = 32 then blL t (n + 1)
  else if c = 9 then blL t (n + 1)
  else if c = 40 then
   (if (cm (c :: t)).2 = 0 then blL (t.drop ((cm (c :: t)).1 - 1)) (n + (cm (c :: t)).1) else (0, (cm (c :: t)).2))
  else (n, 0)
termination_by l.length
decreasing_by all_goals (simp only [List.length_cons, List.length_drop]; omega)
theorem qd_nil (out : List UInt8) (n : Nat) : qdL [] out n = ([], 0, 4) := by simp [qdL]
theorem qd_end (l out : List UInt8) (n : Nat) : qdL (34 :: l) out n = (out, n + 1, 0) := by cases l <;> simp [qdL]
theorem qd_back (out : List UInt8) (n : Nat) : qdL [92] out n = ([], 0, 4) := by simp [qdL]
theorem qd_pair (d : UInt8) (l out : List UInt8) (n : Nat) : qdL (92 :: d :: l) out n = if plC d then qdL l (out ++ [d]) (n + 2) else ([], 0, 5) := by simp [qdL]
theorem qd_else {c : UInt8} (h1 : ¬ c = 34) (h2 : ¬ c = 92) (l out : List UInt8) (n : Nat) : qdL (c :: l) out n = if plC c then qdL l (out ++ [c]) (n + 1) else ([], 0, 5) := by cases l <;> simp [qdL, h1, h2]
end Go.Proofs.YtgelfnjicglmbaaGreatDoor.S

