/- A region that draws its order, by an invariant; a map literal whose stores stand among calls. -/
import Derived.Orders
import Derived.Test.YtdciiahlakgikaaDoorMP
namespace Go.Proofs.YtdciiahlakgikaaDoorW.PrintWords
open Go.RowKit Go.Maps Go.ChangeShapes
section
variable {P : Program} {ops : Array Oper} {Q : Exit → Act → World → Prop}
def leftN (L : Array Bool) : Nat := L.toList.count false
theorem leftN_set {L : Array Bool} {i : Nat} (h : L.getD i true = false) : leftN (L.setIfInBounds i true) + 1 = leftN L := by
  have hi : i < L.size := by
    rcases Nat.lt_or_ge i L.size with h' | h'
    · exact h'
    · simp [Array.getElem?_eq_none h'] at h
  have hv : L.toList[i]'(by simpa using hi) = false := by
    simp [hi] at h
    simpa using h
  unfold leftN
  rw [Array.toList_setIfInBounds, List.count_set (by simpa using hi), hv]
  have hp : 0 < L.toList.count false := List.count_pos_iff.2 (by rw [← hv]; exact List.getElem_mem _)
  rw [if_pos (by rfl : (false == false) = true), if_neg (by decide)]
  omega
theorem leftN_zero {L : Array Bool} (h : leftN L = 0) (i : Nat) : L.getD i true = true := by
  unfold leftN at h
  rcases Nat.lt_or_ge i L.size with h' | h'
  · have := List.count_eq_zero.1 h
    cases hv : L[i] with
    | true => simp [h', hv]
    | false => exact absurd (by rw [← hv]; simp) this
  · simp [Array.getElem?_eq_none h']
/-- What has come up has come up behind what it waits for. -/
def ClosedL (ops : Array Oper) (L : Array Bool) : Prop := ∀ j o, ops[j]? = some o → L.getD j false = true → ∀ e ∈ o.after, Region.binds .any e = true → L.getD e.on false = true
theorem getD_set_true {L : Array Bool} {i j : Nat} (h : L.getD j false = true) : (L.setIfInBounds i true).getD j false = true := by
  rcases Nat.lt_or_ge j L.size with h' | h'
  · by_cases hij : i = j
    · subst hij; simp [h']
    · simpa [hij] using h
  · simp [Array.getElem?_eq_none h'] at h
theorem closed_set {L : Array Bool} {i : Nat} {o : Oper} (hC : ClosedL ops L) (ho : ops[i]? = some o) (h : ∀ e ∈ o.after, Region.binds .any e = true → L.getD e.on false = true) : ClosedL ops (L.setIfInBounds i true) := by
  intro j o' ho' hl e he hb
  by_cases hij : i = j
  · subst hij
    rw [ho] at ho'
    obtain rfl := Option.some.inj ho'
    exact getD_set_true (h e he hb)
  · have hl' : L.getD j false = true := by simpa [hij] using hl
    exact getD_set_true (hC j o' ho' hl' e he hb)
theorem wpAny_inv (Inv : Array Bool → Act → World → Prop)
    (hs : ∀ L a w i o, L.size = ops.size → ClosedL ops L → Inv L a w → L.getD i true = false → ops[i]? = some o → (∀ e ∈ o.after, Region.binds .any e = true → L.getD e.on false = true) → wpOp P ops Q i (fun a' w' => Inv (L.setIfInBounds i true) a' w') a w)
    (hd : ∀ L a w, L.size = ops.size → Inv L a w → Region.ready .any ops L = [] → Q .normal a w) :
    ∀ fuel L a w, L.size = ops.size → ClosedL ops L → leftN L ≤ fuel → Inv L a w → wpAny P .any ops Q fuel L a w
  | 0, L, a, w, hL, hC, hf, hI => by
    have hr : Region.ready .any ops L = [] := by
      rw [List.eq_nil_iff_forall_not_mem]
      intro j hj
      have h1 := (mem_ready.1 hj).1
      rw [leftN_zero (by omega) j] at h1
      cases h1
    exact ⟨hr, hd L a w hL hI hr⟩
  | fuel + 1, L, a, w, hL, hC, hf, hI => by
    refine ⟨hd L a w hL hI, fun i hi => ?_⟩
    obtain ⟨h1, o, h2, h3⟩ := mem_ready.1 hi
    refine wpOp_mono (fun a' w' h => ?_) (hs L a w i o hL hC hI h1 h2 h3)
    have := leftN_set h1
    exact wpAny_inv Inv hs hd fuel _ a' w' (by simpa using hL) (closed_set hC h2 h3) (by omega) h
/-- Where nothing is ready, all has come up. -/
theorem all_up {L : Array Bool} (hL : L.size = ops.size) (hback : ∀ (j : Nat) (o : Oper), ops[j]? = some o → ∀ e ∈ o.after, e.on < j) (hr : Region.ready .any ops L = []) : ∀ j, j < ops.size → L.getD j false = true := by
  intro j
  induction j using Nat.strongRecOn with
  | _ j ih =>
    intro hj
    cases hv : L.getD j false with
    | true => rfl
    | false =>
      have hm : j ∈ Region.ready .any ops L := by
        refine mem_ready.2 ⟨?_, ops[j], by simp [hj], fun e he hb => ?_⟩
        · have : j < L.size := by omega
          simpa [this] using hv
        · have := hback j ops[j] (by simp [hj]) e he
          exact ih e.on this (by omega)
      rw [hr] at hm
      cases hm
/-- A region that draws its order, by an invariant over what has come up. -/
theorem wp_region_inv {id : Nat} {a : Act} {w : World} (Inv : Array Bool → Act → World → Prop) (hm : P.follows .mixedOrders = true) (h0 : Inv (Array.replicate ops.size false) a w.drew)
    (hs : ∀ L a w i o, L.size = ops.size → ClosedL ops L → Inv L a w → L.getD i true = false → ops[i]? = some o → (∀ e ∈ o.after, Region.binds .any e = true → L.getD e.on false = true) → wpOp P ops Q i (fun a' w' => Inv (L.setIfInBounds i true) a' w') a w)
    (hd : ∀ L a w, L.size = ops.size → Inv L a w → Region.ready .any ops L = [] → Q .normal a w) : (Code.region id ops true).wp P Q a w :=
  wp_region_any hm (wpAny_inv Inv hs hd _ _ _ _ (by simp) (fun j o _ hl => by
    exfalso
    simp [Array.getElem?_replicate] at hl
    split at hl <;> cases hl) (by unfold leftN; simp) h0)
theorem wpOp_value {i : Nat} {o : Oper} {a : Act} {w w' : World} {v : Value} {K : Act → World → Prop} (ho : ops[i]? = some o) (hg : o.guard = none) (hr : (execOp a.eval o).run P w = .ok (.value v) w') (h : K (a.put o.dst v) w') : wpOp P ops Q i K a w := by
  unfold wpOp
  rw [ho]
  simp only [Region.wanted, hg, if_true]
  left
  unfold Oper.wp
  rw [hr]
  exact h
theorem wpOp_skip {i : Nat} {o : Oper} {a : Act} {w w' : World} {K : Act → World → Prop} (ho : ops[i]? = some o) (hg : o.guard = none) (hr : (execOp a.eval o).run P w = .ok .skip w') (h : K (a.put o.dst undef) w') : wpOp P ops Q i K a w := by
  unfold wpOp
  rw [ho]
  simp only [Region.wanted, hg, if_true]
  left
  unfold Oper.wp
  rw [hr]
  exact h
theorem wpOp_enter {i : Nat} {o : Oper} {a : Act} {w w' : World} {f : FuncId} {args : Array Value} {K : Act → World → Prop} {R : Ending → World → Prop} (ho : ops[i]? = some o) (hg : o.guard = none) (hr : (execOp a.eval o).run P w = .ok (.enter f args) w')
    (hc : Calls P f args w' R) (h : ∀ e w2, R e w2 → ∃ v, e = .returned v ∧ K (a.put o.dst v) w2) : wpOp P ops Q i K a w := by
  unfold wpOp
  rw [ho]
  simp only [Region.wanted, hg, if_true]
  left
  unfold Oper.wp
  rw [hr, Oper.upon_enter]
  refine hc.mono (fun e w2 he => ?_)
  obtain ⟨v, rfl, hK⟩ := h e w2 he
  exact hK
end
/-! ### The temporaries: what has come up stands in its slot -/
abbrev LTab := List (Nat × Tmp × (Nat → Nat → Value))
def putL (L : Array Bool) (b r : Nat) : LTab → Array Value → Array Value
  | [], t => t
  | e :: s, t => putL L b r s (if L.getD e.1 false = true then t.setIfInBounds e.2.1 (e.2.2 b r) else t)
theorem putL_size (L : Array Bool) (b r : Nat) : ∀ (s : LTab) (t : Array Value), (putL L b r s t).size = t.size
  | [], t => rfl
  | e :: s, t => by
    unfold putL
    rw [putL_size L b r s]
    split <;> simp
theorem putL_comm (L : Array Bool) (b r : Nat) {d : Tmp} {v : Value} : ∀ (s : LTab) (t : Array Value), (∀ e ∈ s, e.2.1 ≠ d) → putL L b r s (t.setIfInBounds d v) = (putL L b r s t).setIfInBounds d v
  | [], t, _ => rfl
  | e :: s, t, h => by
    unfold putL
    have h1 := h e (by simp)
    by_cases hl : L.getD e.1 false = true
    · rw [if_pos hl, if_pos hl, Array.setIfInBounds_comm _ _ (Ne.symm h1), putL_comm L b r s _ (fun x hx => h x (List.mem_cons_of_mem _ hx))]
    · rw [if_neg hl, if_neg hl, putL_comm L b r s _ (fun x hx => h x (List.mem_cons_of_mem _ hx))]
theorem putL_skip {L : Array Bool} {b r i : Nat} : ∀ (s : LTab) (t : Array Value), (∀ e ∈ s, e.1 ≠ i) → putL (L.setIfInBounds i true) b r s t = putL L b r s t
  | [], t, _ => rfl
  | e :: s, t, h => by
    unfold putL
    have h1 := h e (by simp)
    have hl : (L.setIfInBounds i true).getD e.1 false = L.getD e.1 false := by
      simp [Ne.symm h1]
    rw [hl, putL_skip s _ (fun x hx => h x (List.mem_cons_of_mem _ hx))]
def Apart : LTab → Prop
  | [] => True
  | e :: s => (∀ x ∈ s, x.1 ≠ e.1 ∧ x.2.1 ≠ e.2.1) ∧ Apart s
theorem putL_set {L : Array Bool} {b r : Nat} {e : Nat × Tmp × (Nat → Nat → Value)} (hl : L.getD e.1 true = false) : ∀ (s : LTab) (t : Array Value), Apart s → e ∈ s → putL (L.setIfInBounds e.1 true) b r s t = (putL L b r s t).setIfInBounds e.2.1 (e.2.2 b r)
  | x :: s, t, hA, hm => by
    unfold putL
    have hi : e.1 < L.size := by
      rcases Nat.lt_or_ge e.1 L.size with h' | h'
      · exact h'
      · simp [Array.getElem?_eq_none h'] at hl
    rcases List.mem_cons.1 hm with rfl | hm
    · have h1 : (L.setIfInBounds e.1 true).getD e.1 false = true := by simp [hi]
      have h2 : ¬ L.getD e.1 false = true := by simp [hi] at hl ⊢; exact hl
      rw [if_pos h1, if_neg h2, putL_skip s _ (fun y hy => (hA.1 y hy).1), putL_comm L b r s _ (fun y hy => (hA.1 y hy).2)]
    · have h1 := (hA.1 e hm).1
      have h3 : (L.setIfInBounds e.1 true).getD x.1 false = L.getD x.1 false := by simp [h1]
      rw [h3, putL_set hl s _ hA.2 hm]
theorem putL_get {L : Array Bool} {b r : Nat} {e : Nat × Tmp × (Nat → Nat → Value)} (hl : L.getD e.1 false = true) : ∀ (s : LTab) (t : Array Value), Apart s → e ∈ s → e.2.1 < t.size → (putL L b r s t).getD e.2.1 undef = e.2.2 b r
  | x :: s, t, hA, hm, hd => by
    unfold putL
    rcases List.mem_cons.1 hm with rfl | hm
    · rw [if_pos hl, putL_comm L b r s _ (fun y hy => (hA.1 y hy).2)]
      simp [putL_size, hd]
    · exact putL_get hl s _ hA.2 hm (by split <;> simp [hd])
theorem putL_other {L : Array Bool} {b r b' r' : Nat} : ∀ (s : LTab) (t : Array Value), (∀ e ∈ s, L.getD e.1 false = true → e.2.2 b r = e.2.2 b' r') → putL L b r s t = putL L b' r' s t
  | [], t, _ => rfl
  | e :: s, t, h => by
    unfold putL
    by_cases hl : L.getD e.1 false = true
    · rw [if_pos hl, if_pos hl, h e (by simp) hl, putL_other s _ (fun x hx => h x (List.mem_cons_of_mem _ hx))]
    · rw [if_neg hl, if_neg hl, putL_other s _ (fun x hx => h x (List.mem_cons_of_mem _ hx))]
/-! ### The map -/
section
variable {P : Program} {k e t : TypeId}
def SubL (rows : List (ByteArray × Int)) (D : DataW Unit) : Prop := IsMap D ∧ ∀ kl y, (∀ zd, D.atKey kl zd = y) → ∃ p ∈ rowSI rows, p.1 = kl ∧ p.2 = y
theorem sub_nil (rows : List (ByteArray × Int)) : SubL rows (.map []) := ⟨isMap_empty, fun kl y h => by
  have h1 := h (.lit (.bool true))
  have h2 := h (.lit (.bool false))
  have e : ∀ zd : DataW Unit, (DataW.map [] : DataW Unit).atKey kl zd = zd := fun zd => atKey_of_not_has rfl zd
  rw [e] at h1 h2
  rw [← h2] at h1
  cases h1⟩
theorem sub_put {rows : List (ByteArray × Int)} {D : DataW Unit} (h : SubL rows D) {s : ByteArray} {c : Int} (hm : (s, c) ∈ rows) : SubL rows (D.put (.string s.data.toList) (.lit (.int .i64 c))) := ⟨h.1.put _ _, fun kl y hy => by
  by_cases hk : kl = .string s.data.toList
  · subst hk
    refine ⟨(.string s.data.toList, .lit (.int .i64 c)), List.mem_map.2 ⟨(s, c), hm, rfl⟩, rfl, ?_⟩
    have := hy (.lit (.bool true))
    rw [atKey_put_same h.1 (show WideAt.IsKeyLit (.string _) from trivial)] at this
    exact this
  · exact h.2 kl y (fun zd => by rw [← hy zd, atKey_put_other hk])⟩
theorem mem_sub (hk : P.underlying k = some .string) (he : P.underlying e = some (.int .i64)) {l : List (ByteArray × Int)} {D : DataW Unit} (hS : SubL l D) {x : ByteArray} {c : Int} {kl : Lit} {y : DataW Unit × List MemPlace} (hkey : keyOf P k (.string x) = some kl) (hv : plainElem P e (.int .i64 c) = some y)
    (hat : ∀ zd, D.atKey kl zd = y.1) : (x, c) ∈ l := by
  obtain ⟨p, hp, h1, h2⟩ := hS.2 kl y.1 hat
  obtain ⟨z, hz, rfl⟩ := List.mem_map.1 hp
  obtain ⟨s, hs, rfl, _⟩ := keyOf_str hk hkey
  obtain ⟨c', hc, rfl, _⟩ := plainElem_int_inv he hv
  injection hc with _ hc
  subst hc
  injection h1 with h1
  injection h2 with h2
  injection h2 with _ h2
  have e1 : z.1 = x := by
    injection hs with hs
    rw [hs]
    obtain ⟨⟨⟨a⟩⟩, b⟩ := z
    simp at h1
    rw [h1]
  rw [← e1, ← h2]
  exact hz
/-- What holds while the literal's operations come up: im makes the map, ir begins the range. -/
structure LInv (P : Program) (k e : TypeId) (rows : List (ByteArray × Int)) (tbl : LTab) (im ir : Nat) (base : Nat) (w0 : World) (a0 : Act) (L : Array Bool) (a : Act) (w : World) (b r : Nat) : Prop where
  a : a = ⟨putL L b r tbl a0.tmps, a0.defers⟩
  bel : Below base w0 w
  map : L.getD im false = true → L.getD ir false = false → ∃ n D, n + leftN L ≤ 1000 ∧ SubL rows D ∧ w.ownsMap P k (plainElem P e) b n D
  rng : L.getD im false = true → L.getD ir false = true → ∃ n D left cnt, SubL rows D ∧ w.ranges P k (plainElem P e) b r n D left cnt
  free : L.getD im false = false → ∀ z ∈ tbl, L.getD z.1 false = true → ∀ b b' r r', z.2.2 b r = z.2.2 b' r'
  freeR : L.getD ir false = false → ∀ z ∈ tbl, L.getD z.1 false = true → ∀ b r r', z.2.2 b r = z.2.2 b r'
  lo : L.getD im false = true → base ≤ b
  imir : L.getD ir false = true → L.getD im false = true
  lft : leftN L ≤ 900
  loR : L.getD ir false = true → base ≤ r
variable {rows : List (ByteArray × Int)} {tbl : LTab} {im ir base : Nat} {w0 : World} {a0 : Act}
def LIx (P : Program) (k e : TypeId) (rows : List (ByteArray × Int)) (tbl : LTab) (im ir : Nat) (base : Nat) (w0 : World) (a0 : Act) (L : Array Bool) (a : Act) (w : World) : Prop := ∃ b r, LInv P k e rows tbl im ir base w0 a0 L a w b r
theorem getD_other {L : Array Bool} {i j : Nat} (h : i ≠ j) : (L.setIfInBounds i true).getD j false = L.getD j false := by simp [h]
theorem getD_same {L : Array Bool} {i : Nat} (h : L.getD i true = false) : (L.setIfInBounds i true).getD i false = true := by
  rcases Nat.lt_or_ge i L.size with h' | h'
  · simp [h']
  · simp [Array.getElem?_eq_none h'] at h
theorem getD_was {L : Array Bool} {i : Nat} (h : L.getD i true = false) : L.getD i false = false := by
  rcases Nat.lt_or_ge i L.size with h' | h'
  · simpa [h'] using h
  · simp [Array.getElem?_eq_none h']
theorem apart_uniq : ∀ {s : LTab}, Apart s → ∀ {x y : Nat × Tmp × (Nat → Nat → Value)}, x ∈ s → y ∈ s → x.1 = y.1 → x = y
  | z :: s, hA, x, y, hx, hy, he => by
    rcases List.mem_cons.1 hx with e1 | hx
    · rcases List.mem_cons.1 hy with e2 | hy
      · rw [e1, e2]
      · rw [e1] at he
        exact absurd he.symm (hA.1 y hy).1
    · rcases List.mem_cons.1 hy with e2 | hy
      · rw [e2] at he
        exact absurd he (hA.1 x hx).1
      · exact apart_uniq hA.2 hx hy he
/-- An operation that yields a value (which may be the map's), and may make memory. -/
theorem step_val {L : Array Bool} {a : Act} {w w' : World} {i b r : Nat} {d : Tmp} {f : Nat → Value} (hA : Apart tbl) (hm : (i, d, fun b _ => f b) ∈ tbl) (h : LInv P k e rows tbl im ir base w0 a0 L a w b r) (hl : L.getD i true = false) (h1 : i ≠ im) (h2 : i ≠ ir) (hf : (∀ b b', f b = f b') ∨ L.getD im false = true) (hb : Below w.heap.size w w') (hbase : base ≤ w0.heap.size) :
    LInv P k e rows tbl im ir base w0 a0 (L.setIfInBounds i true) (a.put (some d) (f b)) w' b r := by
  have I := h
  have hn := leftN_set hl
  refine ⟨?_, I.bel.trans (hb.mono (Nat.le_trans hbase I.bel.size)), ?_, ?_, ?_, ?_, ?_, ?_, ?_, ?_⟩
  · rw [I.a]
    have := putL_set (b := b) (r := r) (e := (i, d, fun b _ => f b)) hl tbl a0.tmps hA hm
    simp only [Act.put]
    rw [this]
  · intro h3 h4
    rw [getD_other h1] at h3
    rw [getD_other h2] at h4
    obtain ⟨n, D, q1, q2, q3⟩ := I.map h3 h4
    exact ⟨n, D, by omega, q2, q3.kept (grown_of_below hb none) (by simp)⟩
  · intro h3 h4
    rw [getD_other h1] at h3
    rw [getD_other h2] at h4
    obtain ⟨n, D, left, cnt, q2, q3⟩ := I.rng h3 h4
    exact ⟨n, D, left, cnt, q2, q3.kept (grown_of_below hb none) (by simp) (by simp)⟩
  · intro h3 z hz hz1 b b' r r'
    rw [getD_other h1] at h3
    by_cases hi : i = z.1
    · obtain rfl := apart_uniq hA hm hz hi
      rcases hf with hf | hf
      · exact hf b b'
      · rw [hf] at h3; cases h3
    · rw [getD_other hi] at hz1
      exact I.free h3 z hz hz1 b b' r r'
  · intro h3 z hz hz1 b r r'
    rw [getD_other h2] at h3
    by_cases hi : i = z.1
    · obtain rfl := apart_uniq hA hm hz hi
      rfl
    · rw [getD_other hi] at hz1
      exact I.freeR h3 z hz hz1 b r r'
  · intro h3
    rw [getD_other h1] at h3
    exact I.lo h3
  · intro h3
    rw [getD_other h2] at h3
    rw [getD_other h1]
    exact I.imir h3
  · have := I.lft; omega
  · intro h3
    rw [getD_other h2] at h3
    exact I.loR h3
/-- A store of the literal. -/
theorem step_ins {L : Array Bool} {a : Act} {w : World} {i b r : Nat} (hk : P.underlying k = some .string) (he : P.underlying e = some (.int .i64)) (K : Keyed P k) (ht : P.underlying t = some (.map k e)) (hA : ∀ z ∈ tbl, z.1 ≠ i) (h : LInv P k e rows tbl im ir base w0 a0 L a w b r) (hl : L.getD i true = false) (h1 : i ≠ im) (h2 : i ≠ ir)
    (hM : L.getD im false = true) (hR : L.getD ir false = false) {s : ByteArray} {c : Int} (hrow : (s, c) ∈ rows) (hsz : s.size ≤ maxLen) (hw : (Lit.int .i64 c).wf = true) (hbase : base ≤ w0.heap.size) :
    ∃ w', (Instr.mapUpdate t (.map (some b)) (.string s) (.int .i64 c)).run P w = .ok () w' ∧ LInv P k e rows tbl im ir base w0 a0 (L.setIfInBounds i true) a w' b r := by
  have I := h
  have hn := leftN_set hl
  have hL := I.lft
  have hM0 : maxLen = 9223372036854775807 := rfl
  obtain ⟨n, D, q1, q2, q3⟩ := I.map hM hR
  obtain ⟨w', hrun, r1, r2⟩ := q3.update K ht (by omega) (Go.WideMaps.keyOf_string_mk hk hsz) (plainElem_int he hw)
  refine ⟨w', hrun, ?_, I.bel.grown r2 (Nat.le_trans hbase I.bel.size) (fun x hx => by cases hx; exact I.lo hM), ?_, ?_, ?_, ?_, ?_, ?_, ?_, ?_⟩
  · rw [I.a, putL_skip tbl _ hA]
  · intro _ _
    exact ⟨n + 1, _, by omega, sub_put q2 hrow, r1⟩
  · intro h3 h4
    rw [getD_other h2, hR] at h4; cases h4
  · intro h3
    rw [getD_other h1, hM] at h3; cases h3
  · intro h3 z hz hz1 b r r'
    rw [getD_other (fun e => hA z hz e.symm)] at hz1
    exact I.freeR hR z hz hz1 b r r'
  · intro _; exact I.lo hM
  · intro _; rw [getD_other h1]; exact hM
  · omega
  · intro h3
    rw [getD_other h2, hR] at h3; cases h3
/-- The map is made. -/
theorem step_make {L : Array Bool} {a : Act} {w : World} {b r : Nat} {d : Tmp} (hA : Apart tbl) (hm : (im, d, fun b _ => .map (some b)) ∈ tbl) (h : LInv P k e rows tbl im ir base w0 a0 L a w b r) (hl : L.getD im true = false) (hne : im ≠ ir) (hbase : base ≤ w0.heap.size) :
    LInv P k e rows tbl im ir base w0 a0 (L.setIfInBounds im true) (a.put (some d) (.map (some w.heap.size))) (w.alloc (.map #[] 0)) w.heap.size r := by
  have I := h
  have hn := leftN_set hl
  have hL := I.lft
  have hw := getD_was hl
  refine ⟨?_, I.bel.alloc (Nat.le_trans hbase I.bel.size) _, ?_, ?_, ?_, ?_, ?_, ?_, ?_, ?_⟩
  · rw [I.a, putL_other (b' := w.heap.size) (r' := r) tbl a0.tmps (fun z hz hz1 => I.free hw z hz hz1 _ _ _ _)]
    have := putL_set (b := w.heap.size) (r := r) (e := (im, d, fun b _ => .map (some b))) hl tbl a0.tmps hA hm
    simp only [Act.put]
    rw [this]
  · intro _ _
    exact ⟨0, _, by omega, sub_nil rows, World.ownsMap_made _ _ _ _⟩
  · intro h3 h4
    rw [getD_other hne] at h4
    rw [I.imir h4] at hw; cases hw
  · intro h3
    rw [getD_same hl] at h3; cases h3
  · intro h3 z hz hz1 b r r'
    rw [getD_other hne] at h3
    by_cases hi : im = z.1
    · obtain rfl := apart_uniq hA hm hz hi
      rfl
    · rw [getD_other hi] at hz1
      exact I.freeR h3 z hz hz1 b r r'
  · intro _; exact Nat.le_trans hbase I.bel.size
  · intro _; exact getD_same hl
  · omega
  · intro h4
    rw [getD_other hne] at h4
    rw [I.imir h4] at hw; cases hw
/-- The range begins. -/
theorem step_range {L : Array Bool} {a : Act} {w : World} {b r : Nat} {d : Tmp} (K : Keyed P k) (ht : P.underlying t = some (.map k e)) (hA : Apart tbl) (hm : (ir, d, fun _ r => .pointer (some ⟨r, 0, none⟩)) ∈ tbl) (h : LInv P k e rows tbl im ir base w0 a0 L a w b r) (hl : L.getD ir true = false) (hne : im ≠ ir) (hM : L.getD im false = true) (hbase : base ≤ w0.heap.size) :
    ∃ w', (Instr.range t (.map (some b))).run P w = .ok (.pointer (some ⟨w.heap.size, 0, none⟩)) w' ∧ LInv P k e rows tbl im ir base w0 a0 (L.setIfInBounds ir true) (a.put (some d) (.pointer (some ⟨w.heap.size, 0, none⟩))) w' b w.heap.size := by
  have I := h
  have hn := leftN_set hl
  have hL := I.lft
  have hw := getD_was hl
  obtain ⟨n, D, q1, q2, q3⟩ := I.map hM hw
  obtain ⟨w', hrun, r1, r2, r3⟩ := q3.range K ht
  refine ⟨w', hrun, ?_, I.bel.grown r2 (Nat.le_trans hbase I.bel.size) (fun x hx => by cases hx), ?_, ?_, ?_, ?_, ?_, ?_, ?_, ?_⟩
  · rw [I.a, putL_other (b' := b) (r' := w.heap.size) tbl a0.tmps (fun z hz hz1 => I.freeR hw z hz hz1 _ _ _)]
    have := putL_set (b := b) (r := w.heap.size) (e := (ir, d, fun _ r => .pointer (some ⟨r, 0, none⟩))) hl tbl a0.tmps hA hm
    simp only [Act.put]
    rw [this]
  · intro h3 h4
    rw [getD_same hl] at h4; cases h4
  · intro _ _
    exact ⟨n, D, _, _, q2, r1⟩
  · intro h3
    rw [getD_other (Ne.symm hne), hM] at h3; cases h3
  · intro h3
    rw [getD_same hl] at h3; cases h3
  · intro _; exact I.lo hM
  · intro _; rw [getD_other (Ne.symm hne)]; exact hM
  · omega
  · intro _; exact Nat.le_trans hbase I.bel.size
theorem LInv.at_ {L : Array Bool} {a : Act} {w : World} {b r : Nat} (h : LInv P k e rows tbl im ir base w0 a0 L a w b r) (hA : Apart tbl) {i : Nat} {d : Tmp} {f : Nat → Nat → Value} (hm : (i, d, f) ∈ tbl) (hl : L.getD i false = true) (hd : d < a0.tmps.size) : a.eval (.tmp d) = f b r := by
  rw [h.a]
  exact putL_get (e := (i, d, f)) hl tbl a0.tmps hA hm hd
end
end Go.Proofs.YtdciiahlakgikaaDoorW.PrintWords
