/- A row of bytes that a conversion of a text has made: the model marks it behind its last cell, so it is no row of the usual make. Its words, under the names that the printed walks ask for. -/
import Derived.Test.YtoigafnaoaafeaaDoorV
import Derived.Lib.ConvBytes
import Derived.Lib.Strings
namespace Go.Proofs.YtoigafnaoaafeaaDoorW.PrintWords
open Go.RowKit
namespace Kd
/-- A marked row of the call's own (its elements lead to nothing). -/
def B {α : Type} (d : Kd α) (e : Nat) (w : World) (base : Nat) (ok : Nat → Prop) (v : Value) (xs : List α) : Prop :=
  (∀ k, v.ownBlock = some k → ok k) ∧ ∃ g cap cur, v = .slice (some ⟨g, 0, none⟩) xs.length cap ∧ base ≤ g ∧ w.heap[g]? = some (.cells cur e (cur.size, cur.size + 1)) ∧ xs.length ≤ cap ∧ xs.length ≤ 9223372036854775807 ∧ cur.size = cap * d.sz ∧ Reps (fun x cs => ∀ W, d.K W x cs) d.sz xs (cur.toList.take (xs.length * d.sz))
section
variable {α : Type} {d : Kd α} {e : Nat} {w w1 W W2 : World} {base : Nat} {ok ok' S : Nat → Prop} {v : Value} {xs : List α}
theorem B_stay (h : B d e w base ok v xs) (hm : ∀ k, v.ownBlock = some k → w1.heap[k]? = w.heap[k]?) : B d e w1 base ok v xs := by
  obtain ⟨h0, g, cap, cur, rfl, hg, hh, r⟩ := h
  exact ⟨h0, g, cap, cur, rfl, hg, (hm g (by simp [Value.ownBlock])).trans hh, r⟩
theorem B_lt (h : B d e w base ok v xs) : ∀ k, v.ownBlock = some k → k < w.heap.size := by
  obtain ⟨_, g, cap, cur, rfl, _, hh, _⟩ := h
  intro k hk
  have : g = k := by simpa [Value.ownBlock] using hk
  subst this
  exact blk_lt hh
theorem B_base (h : B d e w base ok v xs) : ∀ k, v.ownBlock = some k → base ≤ k := by
  obtain ⟨_, g, cap, cur, rfl, hg, _⟩ := h
  intro k hk
  have : g = k := by simpa [Value.ownBlock] using hk
  subst this
  exact hg
theorem B_typed (h : B d e w base ok v xs) : ∀ k, v.ownBlock = some k → ∃ cells, w.heap[k]? = some (.cells cells e (cells.size, cells.size + 1)) := by
  obtain ⟨_, g, cap, cur, rfl, _, hh, _⟩ := h
  intro k hk
  have : g = k := by simpa [Value.ownBlock] using hk
  subst this
  exact ⟨cur, hh⟩
theorem B_mono (h : B d e w base ok v xs) (hok : ∀ k, ok k → ok' k) : B d e w base ok' v xs := ⟨fun k hk => hok k (h.1 k hk), h.2⟩
theorem B_ok (h : B d e w base ok v xs) (hok : ∀ k, v.ownBlock = some k → ok' k) : B d e w base ok' v xs := ⟨hok, h.2⟩
theorem B_lower {base' : Nat} (h : B d e w base ok v xs) (hb : base' ≤ base) : B d e w base' ok v xs := by
  obtain ⟨h0, g, cap, cur, rfl, hg, r⟩ := h
  exact ⟨h0, g, cap, cur, rfl, Nat.le_trans hb hg, r⟩
theorem B_bound (h : B d e w base ok v xs) : B d e w base (fun k => ok k ∧ base ≤ k ∧ k < w.heap.size) v xs := B_ok h (fun k hk => ⟨h.1 k hk, B_base h k hk, B_lt h k hk⟩)
theorem B_step (h : B d e w base ok v xs) (hm : ∀ k, ok k → k < w.heap.size → w1.heap[k]? = w.heap[k]?) : B d e w1 base ok v xs := B_stay h (fun k hk => hm k (h.1 k hk) (B_lt h k hk))
theorem B_below (h : B d e w base ok v xs) (hb : Below w.heap.size w w1) : B d e w1 base ok v xs := B_step h (fun k _ hk => hb.block k hk)
theorem B_grown (h : B d e w base ok v xs) {row : Option Nat} (hg : w.grownBy w1 row) (hok : ∀ k, ok k → some k ≠ row) : B d e w1 base ok v xs := B_step h (fun k ho hk => hg.block k hk (hok k ho))
theorem B_far (h : B d e w base ok v xs) {p : Addr} (hok : ∀ k, ok k → k ≠ p.block) (u : Value) : B d e (w.setCell p u) base ok v xs := B_step h (fun k ho _ => Below.heap_setCell w p u k (hok k ho))
theorem B_keep (h : B d e w base ok v xs) {g : Nat} (hk : KeepBut w w1 g none) (hok : ∀ k, ok k → k ≠ g) : B d e w1 base ok v xs := B_step h (fun k ho hlt => hk.2 k hlt (hok k ho) (by simp))
theorem B_alloc (h : B d e w base ok v xs) (o : Obj) : B d e (w.alloc o) base ok v xs := B_below h (below_alloc (Below.refl _ _) o)
theorem B_drew (h : B d e w base ok v xs) : B d e w.drew base ok v xs := B_below h (below_drew (Below.refl _ _))
theorem B_drewN (h : B d e w base ok v xs) (m : Nat) : B d e (w.drewN m) base ok v xs := B_below h (pw_below_drewN (Below.refl _ _) m)
theorem B_at {m : Nat} {w' : World} (hq : w.drewN m = w') (h : B d e w base ok v xs) : B d e w' base ok v xs := by subst hq; exact B_drewN h m
theorem B_away (h : B d e w base ok v xs) {g : Nat} (hok : ∀ k, ok k → k ≠ g) : some g ≠ v.ownBlock := fun e => hok g (h.1 g e.symm) rfl
theorem B_ne (h : B d e w base ok v xs) {g t : Nat} {cells : Array Value} {fz : Nat × Nat} (hb : w.heap[g]? = some (.cells cells t fz)) (ht : e ≠ t) : some g ≠ v.ownBlock := by
  intro hk
  obtain ⟨cur, hc⟩ := B_typed h g hk.symm
  rw [hb] at hc
  injection hc with hc
  injection hc with _ h2
  exact ht h2.symm
theorem B_types (h : B d e w base ok v xs) {g t : Nat} {cells : Array Value} {fz : Nat × Nat} (hb : w.heap[g]? = some (.cells cells t fz)) (ht : ∀ q, q ∈ e :: d.E → q ≠ t) : B d e w base (fun k => ok k ∧ k ≠ g) v xs :=
  B_ok h (fun k hk => ⟨h.1 k hk, fun he => B_ne h hb (ht e List.mem_cons_self) (by rw [← he]; exact hk.symm)⟩)
theorem B_set (h : B d e w base ok v xs) {g t : Nat} {cells : Array Value} (hb : w.heap[g]? = some (.cells cells t (0, 0))) (ht : ∀ q, q ∈ e :: d.E → q ≠ t) (j : Nat) (u : Value) : B d e (w.setCell ⟨g, j, none⟩ u) base ok v xs :=
  B_stay h (fun k hk => Below.heap_setCell w _ u k (fun he => B_ne h hb (ht e List.mem_cons_self) (by rw [← show k = g from he]; exact hk.symm)))
theorem B_reads (h : B d e w base ok v xs) : ∃ A c, v = .slice A xs.length c ∧ xs.length ≤ c ∧ d.C w A xs.length xs := by
  obtain ⟨_, g, cap, cur, rfl, _, hh, hl, hm, hc, hr⟩ := h
  refine ⟨_, _, rfl, hl, rfl, hm, fun hn => ⟨_, rfl, fun j p hj => ⟨_, ?_, hr.2 j p hj w, fun i u hu => ?_⟩⟩⟩
  · exact d.K_len (hr.2 j p hj w)
  · have hcs : ((cur.toList.take (xs.length * d.sz)).drop (j * d.sz)).take d.sz = ((cur.toList.take (xs.length * d.sz)).drop (j * d.sz)).take d.sz := rfl
    rw [add_plain, cell_of_row w g _ cur e _ hh]
    rw [List.getElem?_take] at hu
    split at hu
    · rw [List.getElem?_drop, List.getElem?_take] at hu
      split at hu
      · simpa using hu
      · cases hu
    · cases hu
theorem B_reads' {A : Option Addr} {n c : Nat} (h : B d e w base ok (.slice A n c) xs) : n = xs.length ∧ n ≤ c ∧ d.C w A xs.length xs := by
  obtain ⟨A', c', he, hl, hr⟩ := B_reads h
  injection he with h1 h2 h3
  subst h1
  exact ⟨h2, by omega, hr⟩
theorem B_slice (h : B d e w base ok v xs) : ∃ A c, v = .slice A xs.length c := by
  obtain ⟨A, c, h, _⟩ := B_reads h
  exact ⟨A, c, h⟩
theorem B_form (h : B d e w base ok v xs) (_hp : 0 < xs.length) : ∃ g cap, v = .slice (some ⟨g, 0, none⟩) xs.length cap ∧ base ≤ g ∧ g < w.heap.size ∧ ∃ cells, w.heap[g]? = some (.cells cells e (cells.size, cells.size + 1)) := by
  obtain ⟨_, g, cap, cur, rfl, hg, hh, _⟩ := h
  exact ⟨g, cap, rfl, hg, blk_lt hh, cur, hh⟩
theorem R_overB {β : Type} {d2 : Kd β} {e2 : Nat} {u : Value} {ys : List β} (h : d2.R e2 w base ok u ys) (hty : ∀ k, v.ownBlock = some k → ∃ cells, w.heap[k]? = some (.cells cells e (cells.size, cells.size + 1))) (ht : ∀ q, q ∈ e2 :: d2.E → q ≠ e) (hg : w.grownBy w1 v.ownBlock) : d2.R e2 w1 base ok u ys := by
  refine R_mono (R_move (R_bound h) (fun k hk => hg.block k hk.2.2.1 (fun he => ?_))) (fun _ hk => hk.1)
  obtain ⟨_, _, _, q, hq, cells, hc⟩ := hk
  obtain ⟨cells', hc'⟩ := hty k he.symm
  rw [hc] at hc'
  injection hc' with hc'
  injection hc' with _ hc'
  exact ht q hq hc'
theorem B_old (hu : B d e W base ok v xs) (hb : Below W.heap.size W w1) : B d e w1 base (fun k => ok k ∧ k < W.heap.size) v xs := B_ok (B_below hu hb) (fun k hk => ⟨hu.1 k hk, B_lt hu k hk⟩)
theorem B_elderB (h : B d e w base ok v xs) (a : Nat) (ha : w.heap.size ≤ a) : B d e w base (fun k => ok k ∧ k ≠ a) v xs := B_mono (B_bound h) (fun k hk => ⟨hk.1, by have := hk.2.2; omega⟩)
theorem B_newB {g : Nat} {o : Obj} (h : B d e w1 w.heap.size ok v xs) (hb : w.heap[g]? = some o) : B d e w1 w.heap.size (fun k => ok k ∧ k ≠ g) v xs := B_mono (B_bound h) (fun k hk => ⟨hk.1, by have := blk_lt hb; have := hk.2.1; omega⟩)
theorem B_newM {M : Nat → Prop} (h : B d e w1 W.heap.size ok v xs) (hle : w.heap.size ≤ W.heap.size) (hM : ∀ k, w.heap.size ≤ k → M k) : B d e w1 W.heap.size (fun k => M k ∧ ok k) v xs := B_mono (B_bound h) (fun k hk => ⟨hM k (Nat.le_trans hle hk.2.1), hk.1⟩)
end
section
variable {α : Type} {enc : α → Value} {h1 : ∀ x, (enc x).oneCell' = true} {e base g n cap : Nat} {ok : Nat → Prop} {W : World} {xs : List α}
theorem reps_all {ys : List Value} (h : Reps (fun x cs => ∀ W, (scalar enc h1).K W x cs) (scalar enc h1).sz xs ys) : ys = encs enc xs := by
  have h2 := reps_scalar (enc := enc) xs
  have hs : (scalar enc h1).sz = 1 := rfl
  have hl : ys.length = xs.length := by rw [h.1, hs, Nat.mul_one]
  refine List.ext_getElem (by rw [hl, encs_length]) (fun j a b => ?_)
  have hj : j < xs.length := by omega
  have := h.2 j _ (List.getElem?_eq_getElem hj) default
  have hK : (ys.drop (j * 1)).take 1 = [enc xs[j]] := this
  have h3 := congrArg (·[0]?) hK
  simp [List.getElem?_eq_getElem a] at h3
  simp [encs, h3]
theorem B_celln (d : α) (h : B (scalar enc h1) e W base ok (.slice (some ⟨g, 0, none⟩) n cap) xs) (i : Int) (h0 : 0 ≤ i) (hi : i < n) : W.cell? ⟨g, i.toNat, none⟩ = some (enc (rdOf d xs i)) ∧ W.frozen? ⟨g, i.toNat, none⟩ = false := by
  obtain ⟨_, g', cap', cur, he, _, hh, hl, _, hc, hr⟩ := h
  injection he with a b c
  injection a with a
  injection a with a
  subst a; subst b; subst c
  have hce := reps_all hr
  have hs : (scalar enc h1).sz = 1 := rfl
  rw [hs, Nat.mul_one] at hce
  have hi' : i.toNat < xs.length := by omega
  constructor
  · rw [cell_of_row W g _ cur e _ hh]
    have := congrArg (·[i.toNat]?) hce
    simp only [List.getElem?_take, if_pos hi', encs_get (enc := enc) (d := d) xs i.toNat hi'] at this
    simpa [rdOf] using this
  · rw [hs, Nat.mul_one] at hc
    simp [World.frozen?, hh]
    omega
theorem B_putg (h : B (scalar enc h1) e W base ok (.slice (some ⟨g, 0, none⟩) n cap) xs) (i : Int) (x : α) : B (scalar enc h1) e (W.setCell ⟨g, i.toNat, none⟩ (enc x)) base ok (.slice (some ⟨g, 0, none⟩) n cap) (xs.set i.toNat x) ∧ W.grownBy (W.setCell ⟨g, i.toNat, none⟩ (enc x)) (some g) := by
  obtain ⟨h0, g', cap', cur, he, hb, hh, hl, hm, hc, hr⟩ := h
  injection he with a b c
  injection a with a
  injection a with a
  subst a; subst b; subst c
  have hce := reps_all hr
  have hs : (scalar enc h1).sz = 1 := rfl
  rw [hs, Nat.mul_one] at hce
  have hset : (W.setCell ⟨g, i.toNat, none⟩ (enc x)).heap[g]? = some (.cells (cur.setIfInBounds i.toNat (enc x)) e (cur.size, cur.size + 1)) := by
    rw [World.setCell]
    simp only [Array.getElem?_modify, if_true, hh, Option.map_some]
    rfl
  refine ⟨⟨h0, g, cap, cur.setIfInBounds i.toNat (enc x), by rw [List.length_set], hb, by rw [hset, Array.size_setIfInBounds], by rw [List.length_set]; exact hl, by rw [List.length_set]; exact hm, by rw [Array.size_setIfInBounds]; exact hc, ?_⟩, ?_⟩
  · have e1 : (cur.setIfInBounds i.toNat (enc x)).toList.take ((xs.set i.toNat x).length * (scalar enc h1).sz) = encs enc (xs.set i.toNat x) := by
      rw [hs, Nat.mul_one, List.length_set, Array.toList_setIfInBounds, List.take_set, hce]
      simp [encs, List.map_set]
    rw [e1]
    exact (reps_scalar (xs.set i.toNat x)).imp_ (fun _ _ hp _ => hp)
  · exact ⟨rfl, rfl, rfl, by simp [World.setCell], fun k hk hne => Below.heap_setCell W _ _ k (fun he => hne (by rw [he]))⟩
end
/-- 'string(b)' of a marked row. -/
theorem B_string {P : Program} {w : World} {base : Nat} {e' src dst e : TypeId} {v : Value} {xs : List Int} {ok : Nat → Prop} (hs : P.underlying src = some (.slice e)) (he : P.underlying e = some (.int .u8)) (hd : P.underlying dst = some .string)
    (h : B (Kd.int .u8) e' w base ok v xs) : (convert src dst v).run P w = .ok (.string (strOfNums xs)) w := by
  obtain ⟨A, c, rfl, hl, hC⟩ := B_reads h
  exact C_string hs he hd hC
/-- The bytes of a text, as numbers. -/
def numsOf (s : ByteArray) : List Int := s.data.toList.map fun b => (b.toNat : Int)
theorem numsOf_length (s : ByteArray) : (numsOf s).length = s.size := by unfold numsOf; rw [List.length_map]; exact (Lib.size_eq s).symm
/-- '[]byte(s)': the row that it makes. -/
theorem B_made {P : Program} {W : World} {src dst e : TypeId} {s : ByteArray} (ok : Nat → Prop) (hs : P.underlying src = some .string) (hd : P.underlying dst = some (.slice e)) (he : P.underlying e = some (.int .u8)) (hl : s.size ≤ 9223372036854775807) (hok : ok W.heap.size) :
    ∃ v w1, (convert src dst (.string s)).run P W = .ok v w1 ∧ B (Kd.int .u8) e w1 W.heap.size ok v (numsOf s) ∧ W.grownBy w1 none ∧ (∃ b, v.ownBlock = some b ∧ W.heap.size ≤ b) ∧ Below W.heap.size W w1 := by
  refine ⟨_, _, Lib.run_convert_string_bytes W src dst e s hs hd he, ⟨fun k hk => ?_, W.heap.size, grownCap W s.size 0 e, Lib.bytesCells W e s, by rw [numsOf_length], Nat.le_refl _, Lib.bytesWorld_at_new W e s, by rw [numsOf_length]; exact grownCap_ge _ _ _ _, by rw [numsOf_length]; exact hl, ?_, ?_⟩, ?_, ⟨W.heap.size, by simp [Value.ownBlock], Nat.le_refl _⟩, ?_⟩
  · have : W.heap.size = k := by simpa [Value.ownBlock] using hk
    subst this
    exact hok
  · have := grownCap_ge W s.size 0 e
    have hz : (Kd.int .u8).sz = 1 := rfl
    rw [hz]
    simp [Lib.bytesCells]
    show s.size + _ = _
    omega
  · have hz : (Kd.int .u8).sz = 1 := rfl
    have e1 : (Lib.bytesCells W e s).toList.take ((numsOf s).length * (Kd.int .u8).sz) = encs (Value.int .u8) (numsOf s) := by
      rw [hz, Nat.mul_one, numsOf_length]
      simp only [Lib.bytesCells, Array.toList_append, Array.toList_map]
      rw [List.take_left' (by rw [List.length_map]; exact (Lib.size_eq s).symm)]
      simp [encs, numsOf]
    rw [e1]
    exact (reps_scalar (enc := Value.int .u8) (numsOf s)).imp_ (fun _ _ hp _ => hp)
  · exact ⟨rfl, rfl, rfl, by rw [Lib.bytesWorld_size]; omega, fun k hk _ => Lib.bytesWorld_at_old W e s k hk⟩
  · exact ⟨rfl, rfl, rfl, by rw [Lib.bytesWorld_size]; omega, fun k hk => Lib.bytesWorld_at_old W e s k hk⟩
section
variable {P : Program} {ops : Array Oper} {rest : List Oper} {o : Oper} {a : Act} {Q : Exit → Act → World → Prop} {Kc : Act → World → Prop}
theorem B_bytes {w0 W : World} (base e : Nat) (hgd : o.guard = none) {N : Tmp} (_hd : o.dst = some N) (src t : TypeId) (x : Operand) (s : ByteArray) (ho : o.op = .convert src t x) (hx : a.eval x = .string s)
    (hs : P.underlying src = some .string) (ht : P.underlying t = some (.slice e)) (he : P.underlying e = some (.int .u8)) {ok : Nat → Prop} (hok : ok W.heap.size) (hl : s.size ≤ 9223372036854775807) (HB : Below base w0 W) (hbase : base ≤ W.heap.size)
    (h : ∀ v1 w1, B (Kd.int .u8) e w1 base ok v1 (numsOf s) → Below base w0 w1 → W.grownBy w1 none → (∃ b, v1.ownBlock = some b ∧ W.heap.size ≤ b) → wpList P ops Q rest (a.put o.dst v1) w1) : wpList P ops Q (o :: rest) a W := by
  obtain ⟨v, w1, hr, hB, hg, hn, hbl⟩ := B_made (P := P) (W := W) (src := src) ok hs ht he hl hok
  refine event_run hgd (v := v) (w1 := w1) ?_ (h _ _ (B_lower hB hbase) (below_then HB hbase hbl) hg hn)
  simp [execOp, ho, hx, hr]
theorem B_bytes_step {w0 W : World} (base e : Nat) (hw : Region.wanted o (yielded ops a.tmps) = true) {N : Tmp} (_hd : o.dst = some N) (src t : TypeId) (x : Operand) (s : ByteArray) (ho : o.op = .convert src t x) (hx : a.eval x = .string s)
    (hs : P.underlying src = some .string) (ht : P.underlying t = some (.slice e)) (he : P.underlying e = some (.int .u8)) {ok : Nat → Prop} (hok : ok W.heap.size) (hl : s.size ≤ 9223372036854775807) (HB : Below base w0 W) (hbase : base ≤ W.heap.size)
    (h : ∀ v1 w1, B (Kd.int .u8) e w1 base ok v1 (numsOf s) → Below base w0 w1 → W.grownBy w1 none → (∃ b, v1.ownBlock = some b ∧ W.heap.size ≤ b) → Kc (a.put o.dst v1) w1) : if Region.wanted o (yielded ops a.tmps) = true then Oper.wp P o a W Kc Q else Kc (a.put o.dst undef) W := by
  obtain ⟨v, w1, hr, hB, hg, hn, hbl⟩ := B_made (P := P) (W := W) (src := src) ok hs ht he hl hok
  refine event_step hw (v := v) (w1 := w1) ?_ (h _ _ (B_lower hB hbase) (below_then HB hbase hbl) hg hn)
  simp [execOp, ho, hx, hr]
end
end Kd
end Go.Proofs.YtoigafnaoaafeaaDoorW.PrintWords
