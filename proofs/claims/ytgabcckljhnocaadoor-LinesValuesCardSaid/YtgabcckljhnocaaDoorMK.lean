/- A made map of the texts that have been seen: one fact beside the printed walk's own. -/
import Derived.Test.YtgabcckljhnocaaDoorMP
import Derived.Test.YtgabcckljhnocaaDoorV
namespace Go.Proofs.YtgabcckljhnocaaDoorW.PrintWords
open Go.RowKit Go.Maps Go.ChangeShapes
def seenRow (ks : List (List UInt8)) : List (Lit × DataW Unit) := ks.map fun s => (.string s, .lit (.int .i64 1))
theorem seen_at (ks : List (List UInt8)) (s : List UInt8) : (litMap (seenRow ks)).atKey (.string s) (.lit (.int .i64 0)) = .lit (.int .i64 (if s ∈ ks then 1 else 0)) := by
  obtain ⟨r, rfl⟩ : ∃ r : List (List UInt8), ks = r.reverse := ⟨ks.reverse, by simp⟩
  induction r with
  | nil => exact atKey_of_not_has rfl _
  | cons p r ih =>
    have e : seenRow (p :: r).reverse = seenRow r.reverse ++ [(.string p, .lit (.int .i64 1))] := by simp [seenRow]
    rw [e, lit_snoc]
    by_cases h : s = p
    · subst h
      rw [atKey_put_same (lit_isMap _) (by simp [WideAt.IsKeyLit])]
      simp
    · rw [atKey_put_other (by simpa using h), ih]
      simp [h]
/-- Block b of w is the map of the texts ks. -/
def MapK (P : Program) (k e : Nat) (w : World) (b : Nat) (ks : List (List UInt8)) : Prop := ∃ n, n ≤ ks.length ∧ w.ownsMap P k (plainElem (H := Unit) P e) b n (litMap (seenRow ks))
section
variable {P : Program} {k e b : Nat} {w w1 : World} {ks : List (List UInt8)}
theorem MapK.block (h : MapK P k e w b ks) : ∃ es cl, w.heap[b]? = some (.map es cl) := by
  obtain ⟨_, _, es, cl, hb, _⟩ := h
  exact ⟨es, cl, hb⟩
theorem MapK.move (h : MapK P k e w b ks) (hm : b < w.heap.size → w1.heap[b]? = w.heap[b]?) : MapK P k e w1 b ks := by
  obtain ⟨n, hn, h⟩ := h
  have hlt := h.lt
  obtain ⟨es, cl, hb, F⟩ := h
  exact ⟨n, hn, es, cl, (hm hlt).trans hb, F⟩
theorem MapK.made (P : Program) (k e : Nat) (w : World) : MapK P k e (w.alloc (.map #[] 0)) w.heap.size [] := ⟨0, Nat.le_refl _, World.ownsMap_made _ _ _ _⟩
theorem MapK.below (h : MapK P k e w b ks) (hb : Below w.heap.size w w1) : MapK P k e w1 b ks := h.move (fun hl => hb.block _ hl)
theorem MapK.alloc (h : MapK P k e w b ks) (o : Obj) : MapK P k e (w.alloc o) b ks := h.below (below_alloc (Below.refl _ _) o)
theorem MapK.drew (h : MapK P k e w b ks) : MapK P k e w.drew b ks := h.below (below_drew (Below.refl _ _))
theorem MapK.drewN (h : MapK P k e w b ks) (m : Nat) : MapK P k e (w.drewN m) b ks := h.below (pw_below_drewN (Below.refl _ _) m)
theorem MapK.set (h : MapK P k e w b ks) (p : Addr) (v : Value) : MapK P k e (w.setCell p v) b ks := by
  obtain ⟨n, hn, es, cl, hb, F⟩ := h
  refine ⟨n, hn, es, cl, ?_, F⟩
  by_cases hp : b = p.block
  · subst hp
    simp [World.setCell, Array.getElem?_modify, hb]
  · rw [Below.heap_setCell w p v b hp]; exact hb
/-- Another row (a row of cells) has been written. -/
theorem MapK.grown (h : MapK P k e w b ks) {v : Value} {t : Nat} (hg : w.grownBy w1 v.ownBlock) (hty : ∀ k, v.ownBlock = some k → ∃ cells, w.heap[k]? = some (.cells cells t (0, 0))) : MapK P k e w1 b ks := by
  obtain ⟨es, cl, hb⟩ := h.block
  refine h.move (fun hl => hg.block _ hl (fun he => ?_))
  obtain ⟨cells, hc⟩ := hty b he.symm
  rw [hc] at hb
  cases hb
theorem mkk {W : World} (h : MapK P k e w b ks) (hk : MapK P k e w b ks → MapK P k e W b ks := by intro h_; (with_reducible repeat (first | exact h_ | refine MapK.drewN ?_ _ | refine MapK.drew ?_ | refine MapK.alloc ?_ _ | refine MapK.set ?_ _ _)); try exact h_) : MapK P k e W b ks := hk h
/-- The map is written: rows and blocks of cells stand. -/
theorem Kd.R_mapk {α : Type} {d : Kd α} {t base : Nat} {ok : Nat → Prop} {v : Value} {xs : List α} (h : d.R t w base ok v xs) (hM : MapK P k e w b ks) (hg : w.grownBy w1 (some b)) : d.R t w1 base ok v xs := by
  obtain ⟨es, cl, hb⟩ := hM.block
  refine Kd.R_mono (Kd.R_move (Kd.R_bound h) (fun q hq => hg.block q hq.2.2.1 (fun he => ?_))) (fun _ hk => hk.1)
  obtain ⟨_, _, _, _, _, cells, hc⟩ := hq
  injection he with he
  rw [he, hb] at hc
  cases hc
theorem Kd.S_mapk {α : Type} {d : Kd α} {t base : Nat} {ok : Nat → Prop} {v : Value} {xs : List α} (h : Kd.S d t w base ok v xs) (hM : MapK P k e w b ks) (hg : w.grownBy w1 (some b)) : Kd.S d t w1 base ok v xs := by
  obtain ⟨f, h⟩ := h
  exact ⟨f, Kd.R_mapk h hM hg⟩
theorem blk_mapk {g t : Nat} {cs : Array Value} {z : Nat × Nat} (h : w.heap[g]? = some (.cells cs t z)) (hM : MapK P k e w b ks) (hg : w.grownBy w1 (some b)) : w1.heap[g]? = some (.cells cs t z) := by
  obtain ⟨es, cl, hb⟩ := hM.block
  refine blk_grown h hg (fun he => ?_)
  injection he with he
  rw [he, hb] at h
  cases h
theorem below_mapk {w0 : World} (h : Below w0.heap.size w0 w) (hb : w0.heap.size ≤ b) (hg : w.grownBy w1 (some b)) : Below w0.heap.size w0 w1 :=
  ⟨hg.os.trans h.os, hg.tape.trans h.tape, hg.output.trans h.output, Nat.le_trans h.size hg.size, fun i hi => (hg.block i (Nat.lt_of_lt_of_le hi h.size) (fun he => by injection he with he; omega)).trans (h.block i hi)⟩
/-- 'm[key]'. -/
theorem MapK.look (h : MapK P k e w b ks) {t : Nat} (hk : P.underlying k = some .string) (ht : P.underlying t = some (.map k e)) (he : P.underlying e = some (.int .i64)) (hz : (zeroValue e).run P w = .ok (.int .i64 0) w) (s : ByteArray) (hs : s.size ≤ maxLen) :
    (Instr.lookup t (.map (some b)) (.string s) false).run P w = .ok (.int .i64 (if s.data.toList ∈ ks then 1 else 0)) w := by
  obtain ⟨n, _, h⟩ := h
  obtain ⟨c, h1, h2, _⟩ := h.lookup_int (string_keyed hk) ht he hz (key := .string s) (kl := .string s.data.toList) (WideMaps.keyOf_string_mk hk hs)
  rw [seen_at] at h2
  rw [h1]
  injection h2 with h2
  injection h2 with _ h2
  rw [h2]
/-- 'm[key] = 1'. -/
theorem wpList_mapk {ops : Array Oper} {rest : List Oper} {o : Oper} {a : Act} {Q : Exit → Act → World → Prop} (hg : o.guard = none) (m x v : Operand) (t : Nat) (hop : o.op = Op.mapUpdate t m x v) (hk : P.underlying k = some .string) (ht : P.underlying t = some (.map k e))
    (he : P.underlying e = some (.int .i64)) (h : MapK P k e w b ks) (hn : ks.length < maxLen) (s : ByteArray) (hs : s.size ≤ maxLen) (hm : a.eval m = .map (some b)) (hx : a.eval x = .string s) (hv : a.eval v = .int .i64 1)
    (hK : ∀ w', MapK P k e w' b (ks ++ [s.data.toList]) → w.grownBy w' (some b) → wpList P ops Q rest (a.put o.dst undef) w') : wpList P ops Q (o :: rest) a w := by
  obtain ⟨n, hnk, h⟩ := h
  refine wpList_mapUpdate_own w hg m x v t hop k e (string_keyed hk) ht (plainElem P e) b n _ hm h (by omega) (.string s) (.int .i64 1) (.string s.data.toList) hx hv (WideMaps.keyOf_string_mk hk hs) (.lit (.int .i64 1)) [] (plainElem_int he (by decide)) ?_
  intro w' h1 h2
  refine hK w' ⟨n + 1, by simp; omega, ?_⟩ h2
  have e : seenRow (ks ++ [s.data.toList]) = seenRow ks ++ [(.string s.data.toList, .lit (.int .i64 1))] := by simp [seenRow]
  rw [e, lit_snoc]
  exact h1
end
end Go.Proofs.YtgabcckljhnocaaDoorW.PrintWords
