/- Map literals: a map that is made of entries in a row reads as just them; a range over it meets each. -/
import Derived.Maps.RangeWalk
import Derived.Maps.StringElems
import Derived.Maps.Views
import Derived.Sort.EncStr
import Derived.Sort.KeysCollected
import Derived.Test.YtoigafnaoaafeaaDoorV
namespace Go.Proofs.YtoigafnaoaafeaaDoorW.PrintWords
open Go.RowKit Go.Maps Go.ChangeShapes
section
variable {H : Type}
/-- What a literal of these entries reads as. -/
def litMap (l : List (Lit × DataW H)) : DataW H := l.foldl (fun m p => m.put p.1 p.2) (.map [])
theorem lit_snoc (l : List (Lit × DataW H)) (k : Lit) (d : DataW H) : litMap (l ++ [(k, d)]) = (litMap l).put k d := by
  unfold litMap; rw [List.foldl_append]; rfl
theorem lit_isMap (l : List (Lit × DataW H)) : IsMap (litMap l) := by
  obtain ⟨r, rfl⟩ : ∃ r : List (Lit × DataW H), l = r.reverse := ⟨l.reverse, by simp⟩
  induction r with
  | nil => exact isMap_empty
  | cons p r ih => obtain ⟨k, d⟩ := p; rw [List.reverse_cons, lit_snoc]; exact ih.put k d
theorem lit_mem (l : List (Lit × DataW H)) (hk : ∀ p ∈ l, WideAt.IsKeyLit p.1) {kl : Lit} {y : DataW H} (h : ∀ zd, (litMap l).atKey kl zd = y) : ∃ p ∈ l, p.1 = kl ∧ p.2 = y := by
  obtain ⟨r, rfl⟩ : ∃ r : List (Lit × DataW H), l = r.reverse := ⟨l.reverse, by simp⟩
  induction r with
  | nil =>
    have h1 := h (.lit (.bool true))
    have h2 := h (.lit (.bool false))
    have e : ∀ zd : DataW H, (litMap ([] : List (Lit × DataW H)).reverse).atKey kl zd = zd := fun zd => atKey_of_not_has rfl zd
    rw [e] at h1 h2
    rw [← h2] at h1
    cases h1
  | cons p r ih =>
    obtain ⟨k, d⟩ := p
    rw [List.reverse_cons] at hk h ⊢
    generalize r.reverse = l at hk h ih ⊢
    by_cases hkl : kl = k
    · subst hkl
      refine ⟨(kl, d), by simp, rfl, ?_⟩
      have h1 := h d
      rw [lit_snoc, atKey_put_same (lit_isMap l) (hk (kl, d) (by simp))] at h1
      exact h1
    · obtain ⟨p, hp, h1, h2⟩ := ih (fun p hp => hk p (by simp [hp])) (fun zd => by rw [← h zd, lit_snoc, atKey_put_other hkl])
      exact ⟨p, by simp [hp], h1, h2⟩
end
section
variable {H : Type} {P : Program} {ops : Array Oper} {Q : Exit → Act → World → Prop}
/-- A row of stores of a literal. -/
def InsOk (a : Act) (t : TypeId) (m : Operand) : List Oper → List (Value × Value) → Prop
  | o :: os, e :: es => (o.guard = none ∧ o.dst = none ∧ ∃ kx vx, o.op = Op.insert t m kx vx ∧ a.eval kx = e.1 ∧ a.eval vx = e.2) ∧ InsOk a t m os es
  | [], [] => True
  | _, _ => False
def InsRd (P : Program) (k : TypeId) (R : Value → Option (DataW H × List MemPlace)) : List (Value × Value) → List (Lit × DataW H) → Prop
  | e :: es, d :: ds => (keyOf P k e.1 = some d.1 ∧ ∃ ps, R e.2 = some (d.2, ps)) ∧ InsRd P k R es ds
  | [], [] => True
  | _, _ => False
theorem wpList_inserts (t k e : TypeId) (m : Operand) (K : Keyed P k) (ht : P.underlying t = some (.map k e)) (R : Value → Option (DataW H × List MemPlace)) (b : Nat) {a : Act} (hm : a.eval m = .map (some b)) {rest : List Oper} :
    ∀ (os : List Oper) (es : List (Value × Value)) (ds pre : List (Lit × DataW H)) (n : Nat) (w : World), InsOk a t m os es → InsRd P k R es ds → n + ds.length < maxLen → w.ownsMap P k R b n (litMap pre) →
      (∀ w', w'.ownsMap P k R b (n + ds.length) (litMap (pre ++ ds)) → w.grownBy w' (some b) → wpList P ops Q rest a w') → wpList P ops Q (os ++ rest) a w
  | [], [], [], pre, n, w, _, _, _, hown, h => by
    rw [List.nil_append]
    exact h w (by simpa using hown) ⟨rfl, rfl, rfl, Nat.le_refl _, fun _ _ _ => rfl⟩
  | o :: os, x :: es, d :: ds, pre, n, w, ho, hd, hn, hown, h => by
    obtain ⟨⟨h1, h2, kx, vx, h3, h4, h5⟩, ho⟩ := ho
    obtain ⟨⟨h6, ps, h7⟩, hd⟩ := hd
    rw [List.length_cons] at hn h
    rw [List.cons_append]
    refine wpList_plain h1 fun K' hK' => ?_
    obtain ⟨w1, hrun, r1, r2⟩ := hown.update K ht (by omega) h6 h7
    unfold Oper.wp
    simp [execOp, h3, hm, h4, h5, hrun, Result.andThen]
    refine hK' _ _ ?_
    have hw := wpList_inserts t k e m K ht R b hm (rest := rest) os es ds (pre ++ [(d.1, d.2)]) (n + 1) w1 ho hd (by omega) (by rw [lit_snoc]; exact r1) (fun w' h8 h9 => h w' (by
      rw [show n + (ds.length + 1) = n + 1 + ds.length by omega]; simpa using h8) ⟨h9.os.trans r2.os, h9.tape.trans r2.tape, h9.output.trans r2.output, Nat.le_trans r2.size h9.size, fun i hi hne => (h9.block i (Nat.lt_of_lt_of_le hi r2.size) hne).trans (r2.block i hi hne)⟩)
    simpa [Act.put, h2] using hw
  | [], _ :: _, _, _, _, _, ho, _, _, _, _ => ho.elim
  | _ :: _, [], _, _, _, _, ho, _, _, _, _ => ho.elim
  | [], [], _ :: _, _, _, _, _, hd, _, _, _ => hd.elim
  | _ :: _, _ :: _, [], _, _, _, _, hd, _, _, _ => hd.elim
/-- The first stores of a list of operations. -/
theorem wpList_literal (n0 : Nat) (t k e : TypeId) (m : Operand) (K : Keyed P k) (ht : P.underlying t = some (.map k e)) (R : Value → Option (DataW H × List MemPlace)) (b : Nat) {a : Act} (hm : a.eval m = .map (some b)) (os : List Oper) (es : List (Value × Value)) (ds : List (Lit × DataW H)) (w : World)
    (ho : InsOk a t m (os.take n0) es) (hd : InsRd P k R es ds) (hn : ds.length < maxLen) (hown : w.ownsMap P k R b 0 (litMap []))
    (h : ∀ w', w'.ownsMap P k R b ds.length (litMap ds) → w.grownBy w' (some b) → wpList P ops Q (os.drop n0) a w') : wpList P ops Q os a w := by
  rw [← List.take_append_drop n0 os]
  exact wpList_inserts t k e m K ht R b hm (os.take n0) es ds [] 0 w ho hd (by omega) hown (fun w' h1 h2 => h w' (by simpa using h1) h2)
end
/-! ### From texts to whole numbers -/
section
variable {P : Program} {k e : TypeId}
def rowSI (l : List (ByteArray × Int)) : List (Lit × DataW Unit) := l.map fun z => (.string z.1.data.toList, .lit (.int .i64 z.2))
def insSI (l : List (ByteArray × Int)) : List (Value × Value) := l.map fun z => (.string z.1, .int .i64 z.2)
theorem rd_si (hk : P.underlying k = some .string) (he : P.underlying e = some (.int .i64)) : ∀ l : List (ByteArray × Int), (l.all fun z => decide (z.1.size ≤ maxLen) && (Lit.int .i64 z.2).wf) = true → InsRd P k (plainElem (H := Unit) P e) (insSI l) (rowSI l)
  | [], _ => trivial
  | z :: l, h => by
    rw [List.all_cons, Bool.and_eq_true, Bool.and_eq_true, decide_eq_true_eq] at h
    exact ⟨⟨Go.WideMaps.keyOf_string_mk hk h.1.1, [], plainElem_int he h.1.2⟩, rd_si hk he l h.2⟩
theorem key_si (l : List (ByteArray × Int)) : ∀ p ∈ rowSI l, WideAt.IsKeyLit p.1 := by
  intro p hp
  obtain ⟨z, _, rfl⟩ := List.mem_map.1 hp
  trivial
theorem mem_si (hk : P.underlying k = some .string) (he : P.underlying e = some (.int .i64)) {l : List (ByteArray × Int)} {x : ByteArray} {c : Int} {kl : Lit} {y : DataW Unit × List MemPlace} (hkey : keyOf P k (.string x) = some kl) (hv : plainElem P e (.int .i64 c) = some y)
    (hat : ∀ zd, (litMap (rowSI l)).atKey kl zd = y.1) : (x, c) ∈ l := by
  obtain ⟨p, hp, h1, h2⟩ := lit_mem (rowSI l) (key_si l) hat
  obtain ⟨z, hz, rfl⟩ := List.mem_map.1 hp
  obtain ⟨s, hs, rfl, _⟩ := keyOf_str hk hkey
  obtain ⟨c', hc, rfl, _⟩ := plainElem_int_inv he hv
  injection hc with _ hc
  subst hc
  injection h1 with h1
  injection h2 with h2
  injection h2 with _ h2
  have e1 : z.1 = x := by
    injection hs with hs
    rw [hs]
    obtain ⟨⟨⟨a⟩⟩, b⟩ := z
    simp at h1
    rw [h1]
  rw [← e1, ← h2]
  exact hz
theorem inv_s (hk : P.underlying k = some .string) (key : Value) (kl : Lit) (h : keyOf P k key = some kl) : ∃ x : ByteArray, key = .string x := by
  obtain ⟨s, hs, _⟩ := keyOf_str hk h
  exact ⟨_, hs⟩
theorem inv_i (he : P.underlying e = some (.int .i64)) (v : Value) (y : DataW Unit × List MemPlace) (h : plainElem P e v = some y) : ∃ c : Int, v = .int .i64 c := by
  obtain ⟨c, hc, _⟩ := plainElem_int_inv he h
  exact ⟨c, hc⟩
end
end Go.Proofs.YtoigafnaoaafeaaDoorW.PrintWords
