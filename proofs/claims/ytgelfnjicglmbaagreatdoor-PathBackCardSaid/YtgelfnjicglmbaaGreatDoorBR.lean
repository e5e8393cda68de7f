/- A row of bytes that a conversion of a text has made: the model marks it behind its last cell, so it is no row of the usual make. Its words, under the names that the printed walks ask for. -/
import Derived.Test.YtgelfnjicglmbaaGreatDoorV
import Derived.Lib.ConvBytes
import Derived.Lib.Strings
namespace Go.Proofs.YtgelfnjicglmbaaGreatDoorW.PrintWords
open Go.RowKit
namespace Kd
def B {α : Type} (d : Kd α) (e : Nat) (w : World) (base : Nat) (ok : Nat → Prop) (v : Value) (xs : List α) : Prop :=
 (∀ k, v.ownBlock = some k → ok k) ∧ ∃ g cap cur, v = .slice (some ⟨g, 0, none⟩) xs.length cap ∧ base ≤ g ∧ w.heap[g]? = some (.cells cur e (cur.size, cur.size + 1)) ∧ xs.length ≤ cap ∧ xs.length ≤ 9223372036854775807 ∧ cur.size = cap * d.sz ∧ Reps (fun x cs => ∀ W, d.K W x cs) d.sz xs (cur.toList.take (xs.length * d.sz))
section
variable {α : Type} {d : Kd α} {e : Nat} {w w1 W W2 : World} {base : Nat} {ok ok' S : Nat → Prop} {v : Value} {xs : List α}
theorem B_stay (h : B d e w base ok v xs) (hm : ∀ k, v.ownBlock = some k → w1.heap[k]? = w.heap[k]?) : B d e w1 base ok v xs := by
 obtain ⟨h0, g, cap, cur, rfl, hg, hh, r⟩ := h
 exact ⟨h0, g, cap, cur, rfl, hg, (hm g (by simp [Value.ownBlock])).trans hh, r⟩
theorem B_lt (h : B d e w base ok v xs) : ∀ k, v.ownBlock = some k → k < w.heap.size := by
 obtain ⟨_, g, cap, cur, rfl, _, hh, _⟩ := h
 intro k hk
 have : g = k := by simpa [Value.ownBlock] using hk
 subst this
 exact blk_lt hh
theorem B_base (h : B d e w base ok v xs) : ∀ k, v.ownBlock = some k → base ≤ k := by
 obtain ⟨_, g, cap, cur, rfl, hg, _⟩ := h
 intro k hk
 have : g = k := by simpa [Value.ownBlock] using hk
 subst this
 exact hg
theorem B_mono (h : B d e w base ok v xs) (hok : ∀ k, ok k → ok' k) : B d e w base ok' v xs := ⟨fun k hk => hok k (h.1 k hk), h.2⟩
theorem B_ok (h : B d e w base ok v xs) (hok : ∀ k, v.ownBlock = some k → ok' k) : B d e w base ok' v xs := ⟨hok, h.2⟩
theorem B_lower {base' : Nat} (h : B d e w base ok v xs) (hb : base' ≤ base) : B d e w base' ok v xs := by
 obtain ⟨h0, g, cap, cur, rfl, hg, r⟩ := h
 exact ⟨h0, g, cap, cur, rfl, Nat.le_trans hb hg, r⟩
theorem B_bound (h : B d e w base ok v xs) : B d e w base (fun k => ok k ∧ base ≤ k ∧ k < w.heap.size) v xs := B_ok h (fun k hk => ⟨h.1 k hk, B_base h k hk, B_lt h k hk⟩)
theorem B_step (h : B d e w base ok v xs) (hm : ∀ k, ok k → k < w.heap.size → w1.heap[k]? = w.heap[k]?) : B d e w1 base ok v xs := B_stay h (fun k hk => hm k (h.1 k hk) (B_lt h k hk))
theorem B_below (h : B d e w base ok v xs) (hb : Below w.heap.size w w1) : B d e w1 base ok v xs := B_step h (fun k _ hk => hb.block k hk)
theorem B_alloc (h : B d e w base ok v xs) (o : Obj) : B d e (w.alloc o) base ok v xs := B_below h (below_alloc (Below.refl _ _) o)
theorem B_drew (h : B d e w base ok v xs) : B d e w.drew base ok v xs := B_below h (below_drew (Below.refl _ _))
theorem B_drewN (h : B d e w base ok v xs) (m : Nat) : B d e (w.drewN m) base ok v xs := B_below h (pw_below_drewN (Below.refl _ _) m)
theorem B_reads (h : B d e w base ok v xs) : ∃ A c, v = .slice A xs.length c ∧ xs.length ≤ c ∧ d.C w A xs.length xs := by
 obtain ⟨_, g, cap, cur, rfl, _, hh, hl, hm, hc, hr⟩ := h
 refine ⟨_, _, rfl, hl, rfl, hm, fun hn => ⟨_, rfl, fun j p hj => ⟨_, ?_, hr.2 j p hj w, fun i u hu => ?_⟩⟩⟩
 ·exact d.K_len (hr.2 j p hj w)
 ·have hcs : ((cur.toList.take (xs.length * d.sz)).drop (j * d.sz)).take d.sz = ((cur.toList.take (xs.length * d.sz)).drop (j * d.sz)).take d.sz := rfl
  rw [add_plain, cell_of_row w g _ cur e _ hh]
  rw [List.getElem?_take] at hu
  split at hu
  ·rw [List.getElem?_drop, List.getElem?_take] at hu
   split at hu
   ·simpa using hu
   ·cases hu
  ·cases hu
theorem B_reads' {A : Option Addr} {n c : Nat} (h : B d e w base ok (.slice A n c) xs) : n = xs.length ∧ n ≤ c ∧ d.C w A xs.length xs := by
 obtain ⟨A', c', he, hl, hr⟩ := B_reads h
 injection he with h1 h2 h3
 subst h1
 exact ⟨h2, by omega, hr⟩
theorem B_slice (h : B d e w base ok v xs) : ∃ A c, v = .slice A xs.length c := by
 obtain ⟨A, c, h, _⟩ := B_reads h
 exact ⟨A, c, h⟩
theorem B_new' {u : Value} (h : B d e w1 W.heap.size ok v xs) (hlt : ∀ k, u.ownBlock = some k → k < W.heap.size) : B d e w1 W.heap.size (fun k => ok k ∧ some k ≠ u.ownBlock) v xs := B_mono (B_bound h) (fun k hk => ⟨hk.1, fun he => by have := hlt k he.symm; have := hk.2.1; omega⟩)
theorem B_elder' {u : Value} (h : B d e W base ok v xs) (hbase : ∀ k, u.ownBlock = some k → W.heap.size ≤ k) (hb : Below W.heap.size W w1) : B d e w1 base (fun k => ok k ∧ some k ≠ u.ownBlock) v xs := B_mono (B_below (B_bound h) hb) (fun k hk => ⟨hk.1, fun he => by have := hbase k he.symm; have := hk.2.2; omega⟩)
end
section
variable {α : Type} {enc : α → Value} {h1 : ∀ x, (enc x).oneCell' = true} {e base g n cap : Nat} {ok : Nat → Prop} {W : World} {xs : List α}
end
def numsOf (s : ByteArray) : List Int := s.data.toList.map fun b => (b.toNat : Int)
theorem numsOf_length (s : ByteArray) : (numsOf s).length = s.size := by unfold numsOf; rw [List.length_map]; exact (Lib.size_eq s).symm
theorem B_made {P : Program} {W : World} {src dst e : TypeId} {s : ByteArray} (ok : Nat → Prop) (hs : P.underlying src = some .string) (hd : P.underlying dst = some (.slice e)) (he : P.underlying e = some (.int .u8)) (hl : s.size ≤ 9223372036854775807) (hok : ok W.heap.size) :
  ∃ v w1, (convert src dst (.string s)).run P W = .ok v w1 ∧ B (Kd.int .u8) e w1 W.heap.size ok v (numsOf s) ∧ W.grownBy w1 none ∧ (∃ b, v.ownBlock = some b ∧ W.heap.size ≤ b) ∧ Below W.heap.size W w1 := by
 refine ⟨_, _, Lib.run_convert_string_bytes W src dst e s hs hd he, ⟨fun k hk => ?_, W.heap.size, grownCap W s.size 0 e, Lib.bytesCells W e s, by rw [numsOf_length], Nat.le_refl _, Lib.bytesWorld_at_new W e s, by rw [numsOf_length]; exact grownCap_ge _ _ _ _, by rw [numsOf_length]; exact hl, ?_, ?_⟩, ?_, ⟨W.heap.size, by simp [Value.ownBlock], Nat.le_refl _⟩, ?_⟩
 ·have : W.heap.size = k := by simpa [Value.ownBlock] using hk
  subst this
  exact hok
 ·have := grownCap_ge W s.size 0 e
  have hz : (Kd.int .u8).sz = 1 := rfl
  rw [hz]
  simp [Lib.bytesCells]
  show s.size + _ = _
  omega
 ·have hz : (Kd.int .u8).sz = 1 := rfl
  have e1 : (Lib.bytesCells W e s).toList.take ((numsOf s).length * (Kd.int .u8).sz) = encs (Value.int .u8) (numsOf s) := by
   rw [hz, Nat.mul_one, numsOf_length]
   simp only [Lib.bytesCells, Array.toList_append, Array.toList_map]
   rw [List.take_left' (by rw [List.length_map]; exact (Lib.size_eq s).symm)]
   simp [encs, numsOf]
  rw [e1]
  exact (reps_scalar (enc := Value.int .u8) (numsOf s)).imp_ (fun _ _ hp _ => hp)
 ·exact ⟨rfl, rfl, rfl, by rw [Lib.bytesWorld_size]; omega, fun k hk _ => Lib.bytesWorld_at_old W e s k hk⟩
 ·exact ⟨rfl, rfl, rfl, by rw [Lib.bytesWorld_size]; omega, fun k hk => Lib.bytesWorld_at_old W e s k hk⟩
section
variable {P : Program} {ops : Array Oper} {rest : List Oper} {o : Oper} {a : Act} {Q : Exit → Act → World → Prop} {Kc : Act → World → Prop}
theorem B_bytes {w0 W : World} (base e : Nat) (hgd : o.guard = none) {N : Tmp} (_hd : o.dst = some N) (src t : TypeId) (x : Operand) (s : ByteArray) (ho : o.op = .convert src t x) (hx : a.eval x = .string s)
  (hs : P.underlying src = some .string) (ht : P.underlying t = some (.slice e)) (he : P.underlying e = some (.int .u8)) {ok : Nat → Prop} (hok : ok W.heap.size) (hl : s.size ≤ 9223372036854775807) (HB : Below base w0 W) (hbase : base ≤ W.heap.size)
  (h : ∀ v1 w1, B (Kd.int .u8) e w1 base ok v1 (numsOf s) → Below base w0 w1 → W.grownBy w1 none → (∃ b, v1.ownBlock = some b ∧ W.heap.size ≤ b) → wpList P ops Q rest (a.put o.dst v1) w1) : wpList P ops Q (o :: rest) a W := by
 obtain ⟨v, w1, hr, hB, hg, hn, hbl⟩ := B_made (P := P) (W := W) (src := src) ok hs ht he hl hok
 refine event_run hgd (v := v) (w1 := w1) ?_ (h _ _ (B_lower hB hbase) (below_then HB hbase hbl) hg hn)
 simp [execOp, ho, hx, hr]
end
end Kd
end Go.Proofs.YtgelfnjicglmbaaGreatDoorW.PrintWords

