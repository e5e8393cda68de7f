/- Words, quoted words, values of lines: what the functions answer, on lists of bytes. -/
import Derived.Test.YtgabcckljhnocaaDoorTX
import Derived.Test.YtgabcckljhnocaaDoorQx0
namespace Go.Proofs.YtgabcckljhnocaaDoor.S
open Go.RowKit Go.Proofs.YtgabcckljhnocaaDoor.Q Go.Proofs.YtgabcckljhnocaaDoorW.PrintWords Go.Proofs.YtgabcckljhnocaaDoorW.PrintLast Go.Proofs.YtgabcckljhnocaaDoorW.PrintMore
set_option linter.unusedVariables false
set_option linter.unusedSimpArgs false
/-! ### trim -/
theorem ltrim_f {x : ByteArray} (hx : x.size ≤ 70368744177) : lines_trim.f x = some (B (trimL (L x))) := by
  unfold lines_trim.f strings_Trim.f
  rw [if_pos ⟨by omega, by decide, by decide⟩]
  simp only [Option.bind_some]
  have : Lib.trimS x.data.toList (⟨#[32, 9]⟩ : ByteArray).data.toList = trimL (L x) := by
    unfold Lib.trimS Lib.trimLeftS Lib.trimRightS
    simp only [show (⟨#[32, 9]⟩ : ByteArray).data.toList = [32, 9] from rfl, bl_has]
    exact trim_both blC (L x)
  rw [this]; rfl
theorem trimL_len (l : List UInt8) : (trimL l).length ≤ l.length := by
  unfold trimL
  rw [List.length_reverse]
  have h1 := (List.dropWhile_suffix (l := (l.dropWhile blC).reverse) blC).length_le
  have h2 := (List.dropWhile_suffix (l := l) blC).length_le
  rw [List.length_reverse] at h1
  omega
theorem trimL_nil : trimL [] = [] := rfl
theorem trimL_bl {l : List UInt8} (h : l.all blC = true) : trimL l = [] := by
  have : l.dropWhile blC = [] := dropW_nil.2 (fun x hx => List.all_eq_true.1 h x hx)
  unfold trimL; rw [this]; rfl
theorem trimL_pre {p : List UInt8} (h : p.all blC = true) (l : List UInt8) : trimL (p ++ l) = trimL l := by
  unfold trimL; rw [dropW_all _ _ h]
theorem rdL_len (l : List UInt8) : (rdL l).length ≤ l.length := by
  unfold rdL
  rw [List.length_reverse]
  have h1 := (List.dropWhile_suffix (l := l.reverse) blC).length_le
  rw [List.length_reverse] at h1
  omega
/-- A text that begins with no blank: only its end is trimmed. -/
theorem trimL_head {c : UInt8} (h : blC c = false) (l : List UInt8) : trimL (c :: l) = rdL (c :: l) := by
  unfold trimL rdL
  rw [List.dropWhile_cons, if_neg (by simp [h])]
theorem rdL_mid {c : UInt8} (h : blC c = false) (a l : List UInt8) : rdL (a ++ c :: l) = a ++ c :: rdL l := by
  unfold rdL
  rw [List.reverse_append, List.reverse_cons, List.append_assoc, List.singleton_append]
  by_cases hl : l.reverse.all blC = true
  · rw [dropW_all _ _ hl, List.dropWhile_cons, if_neg (by simp [h])]
    have : l.reverse.dropWhile blC = [] := dropW_nil.2 (fun x hx => List.all_eq_true.1 hl x hx)
    rw [this]; simp
  · rw [dropW_app _ _ (by simpa using hl)]; simp
theorem rdL_end {e : List UInt8} (h : e.all blC = true) (l : List UInt8) : rdL (l ++ e) = rdL l := by
  unfold rdL
  rw [List.reverse_append, dropW_all _ _ (by rw [List.all_reverse]; exact h)]
theorem rdL_bl {e : List UInt8} (h : e.all blC = true) : rdL e = [] := by
  have := rdL_end h []
  rw [List.nil_append] at this
  exact this
theorem rdL_idem (l : List UInt8) : rdL (rdL l) = rdL l := by
  have h : ∀ m : List UInt8, (m.dropWhile blC).dropWhile blC = m.dropWhile blC := by
    intro m
    induction m with
    | nil => rfl
    | cons a m ih =>
      rw [List.dropWhile_cons]
      by_cases ha : blC a = true
      · rw [if_pos ha]; exact ih
      · rw [if_neg ha, List.dropWhile_cons, if_neg ha]
  unfold rdL
  rw [List.reverse_reverse, h]
theorem rdL_pre (l : List UInt8) : ∃ e, l = rdL l ++ e ∧ e.all blC = true := by
  refine ⟨(l.reverse.takeWhile blC).reverse, ?_, by rw [List.all_reverse]; exact take_all _ _⟩
  unfold rdL
  rw [← List.reverse_append, List.takeWhile_append_dropWhile, List.reverse_reverse]
theorem rd_head {c : UInt8} (h : blC c = false) (l : List UInt8) : rdL (c :: l) = c :: rdL l := by simpa using rdL_mid h [] l
theorem trimL_end {e : List UInt8} (h : e.all blC = true) (l : List UInt8) : trimL (l ++ e) = trimL l := by
  by_cases hl : l.all blC = true
  · rw [trimL_bl hl, trimL_bl (by rw [List.all_append, hl, h]; rfl)]
  · obtain ⟨a, c, r, rfl, ha, hc⟩ : ∃ a c r, l = a ++ c :: r ∧ a.all blC = true ∧ blC c = false := by
      cases hd : l.dropWhile blC with
      | nil => exact absurd (List.all_eq_true.2 (dropW_nil.1 hd)) hl
      | cons c r =>
        refine ⟨l.takeWhile blC, c, r, by rw [← hd, List.takeWhile_append_dropWhile], take_all _ _, ?_⟩
        have := List.head?_dropWhile_not blC l
        rw [hd] at this; simpa using this
    rw [List.append_assoc, trimL_pre ha, trimL_pre ha, List.cons_append, trimL_head hc, trimL_head hc, ← List.cons_append, rdL_end h]
theorem trimL_rd (l : List UInt8) : trimL (rdL l) = trimL l := by
  obtain ⟨e, h1, h2⟩ := rdL_pre l
  conv => rhs; rw [h1]
  rw [trimL_end h2]
/-! ### printable bytes -/
def prC (c : UInt8) : Bool := c == 9 || (decide (32 ≤ c.toNat) && decide (c.toNat ≤ 126))
theorem printable_l0 {s : ByteArray} (hs : s.size ≤ 70368744177) : ∀ (l : List UInt8) (n : Nat), (L s).drop n = l → n ≤ s.size → Ev (fun k => lines_printable.l0 k s (s.size : Int) (n : Int)) (l.all prC) := by
  intro l
  induction l with
  | nil =>
    intro n hd hn
    have := drop_end hd
    refine Ev.eq (f := fun _ => some _) (fun k => ?_) (Ev.pure _)
    simp only [lines_printable.l0]
    rw [if_neg (by omega)]; rfl
  | cons c l ih =>
    intro n hd hn
    have hlt := drop_lt hd
    have hb := bt_of hd
    have ew := w1 hlt (by omega)
    have hc := UInt8.toNat_lt c
    have h9 : (c == 9) = decide ((c.toNat : Int) = 9) := by
      rw [Bool.eq_iff_iff, beq_iff_eq, decide_eq_true_iff]
      exact (c_eq c 9).symm
    have ihn := ih (n + 1) (drop_next hd) (by omega)
    rw [List.all_cons]
    by_cases hp : prC c = true
    · rw [hp, Bool.true_and]
      refine Ev.eq (f := fun k => lines_printable.l0 k s (s.size : Int) ((n + 1 : Nat) : Int)) (fun k => ?_) ihn
      unfold prC at hp
      rw [h9] at hp
      simp only [lines_printable.l0]
      rw [if_pos (by omega), if_pos (by omega), if_pos (by omega), hb, ew]
      by_cases h1 : (c.toNat : Int) = 9
      · rw [if_pos h1]
      · simp [h1] at hp
        rw [if_neg h1, if_neg (by omega), if_neg (by omega)]
    · rw [Bool.eq_false_iff.2 hp, Bool.false_and]
      refine Ev.eq (f := fun _ => some _) (fun k => ?_) (Ev.pure _)
      unfold prC at hp
      rw [h9] at hp
      simp only [lines_printable.l0]
      rw [if_pos (by omega), if_pos (by omega), if_pos (by omega), hb]
      by_cases h1 : (c.toNat : Int) = 9
      · simp [h1] at hp
      · simp [h1] at hp
        rw [if_neg h1]
        by_cases h2 : (c.toNat : Int) < 32
        · rw [if_pos h2]
        · rw [if_neg h2, if_pos (by omega)]
theorem printable_f {s : ByteArray} (hs : s.size ≤ 70368744177) : Ev (fun k => lines_printable.f k s) ((L s).all prC) := by
  unfold lines_printable.f
  exact printable_l0 hs (L s) 0 rfl (Nat.zero_le _)
/-! ### quoted words -/
def lqL : List UInt8 → List UInt8 → Option (List UInt8 × List UInt8)
  | [], _ => none
  | c :: l, out => if c = 34 then some (out, l) else if c = 92 then (match l with | [] => none | d :: l' => lqL l' (out ++ [d])) else lqL l (out ++ [c])
theorem lq_end (l out : List UInt8) : lqL (34 :: l) out = some (out, l) := by cases l <;> simp [lqL]
theorem lq_pair (d : UInt8) (l out : List UInt8) : lqL (92 :: d :: l) out = lqL l (out ++ [d]) := by simp [lqL]
theorem lq_else {c : UInt8} (h1 : ¬ c = 34) (h2 : ¬ c = 92) (l out : List UInt8) : lqL (c :: l) out = lqL l (out ++ [c]) := by cases l <;> simp [lqL, h1, h2]
def lqR (x : Option (List UInt8 × List UInt8)) : ByteArray × ByteArray × Bool := match x with
  | none => ((⟨#[]⟩ : ByteArray), (⟨#[]⟩ : ByteArray), false)
  | some (a, b) => (B a, B b, true)
theorem quoted_l0 {s : ByteArray} (hs : s.size ≤ 70368744177) : ∀ (N : Nat) (l out : List UInt8) (n : Nat), l.length ≤ N → (L s).drop n = l → n ≤ s.size → out.length ≤ n →
    Ev (fun k => lines_quoted.l0 k s (nmx out) (n : Int)) (lqR (lqL l out)) := by
  have he : ∀ (out : List UInt8) (n : Nat), (L s).drop n = [] → Ev (fun k => lines_quoted.l0 k s (nmx out) (n : Int)) (lqR none) := by
    intro out n hd
    have := drop_end hd
    refine Ev.eq (f := fun _ => some _) (fun k => ?_) (Ev.pure _)
    simp only [lines_quoted.l0]
    rw [if_neg (by omega)]; rfl
  intro N
  induction N with
  | zero =>
    intro l out n h hd hn ho
    obtain rfl : l = [] := List.eq_nil_of_length_eq_zero (by omega)
    exact he out n hd
  | succ N ih =>
    intro l out n h hd hn ho
    cases l with
    | nil => exact he out n hd
    | cons c l =>
      have hlt := drop_lt hd
      have hb := bt_of hd
      have ew := w1 hlt (by omega)
      have hnx := drop_next hd
      simp only [List.length_cons] at h
      by_cases h1 : c = 34
      · subst h1
        rw [lq_end]
        refine Ev.eq (f := fun _ => some _) (fun k => ?_) (Ev.pure _)
        simp only [lines_quoted.l0]
        rw [if_pos (by omega), if_pos (by omega), hb, if_pos (by rfl), ew, if_pos (by omega), if_pos (by omega), str_nmx]
        rw [show ((((n + 1 : Nat) : Int)).toNat) = n + 1 by omega, show s.extract (n + 1) s.size = B l from L_inj (by rw [L_B, L_ext_end, hnx])]
        rfl
      · have h1' : ¬ (c.toNat : Int) = 34 := fun e => h1 ((c_eq c 34).1 e)
        by_cases h2 : c = 92
        · subst h2
          cases l with
          | nil =>
            have hsz := drop_size hd hn
            simp only [List.length_cons, List.length_nil] at hsz
            have hk : lqL [92] out = none := by simp [lqL]
            rw [hk]
            refine Ev.eq (f := fun k => lines_quoted.l0 k s (nmx (out ++ [92])) ((n + 1 : Nat) : Int)) (fun k => ?_) (he _ _ hnx)
            simp only [lines_quoted.l0]
            rw [if_pos (by omega), if_pos (by omega), hb, if_neg h1', if_pos (by rfl), ew, if_neg (by omega), if_pos (by rw [nmx_len]; omega), nmx_snoc]
          | cons d l =>
            have hlt2 := drop_lt hnx
            have hb2 := bt_of hnx
            have key := ih l (out ++ [d]) (n + 1 + 1) (by clear ew; simp only [List.length_cons] at h; omega) (drop_next hnx) hlt2 (by clear ew; simp; omega)
            have hx1 : n + 1 ≤ 140737488351232 := by clear ew; omega
            have hx2 : out.length < 140737488355328 := by clear ew; omega
            have hx3 : 0 ≤ ((n + 1 : Nat) : Int) := by clear ew; omega
            have hx4 : ((n + 1 : Nat) : Int) < (s.size : Int) := by clear ew; omega
            have hx5 : (n : Int) < (s.size : Int) := by clear ew; omega
            have ew2 := w1 hlt2 (by clear ew; omega)
            rw [lq_pair]
            refine Ev.eq (f := fun k => lines_quoted.l0 k s (nmx (out ++ [d])) ((n + 1 + 1 : Nat) : Int)) (fun k => ?_) key
            simp only [lines_quoted.l0]
            rw [if_pos hx5, if_pos (Int.natCast_nonneg n), hb, if_neg h1', if_pos (by rfl), ew, if_pos hx4, if_pos hx3, if_pos (by rw [nmx_len]; exact hx2), hb2, ew2, nmx_snoc]
        · have h2' : ¬ (c.toNat : Int) = 92 := fun e => h2 ((c_eq c 92).1 e)
          rw [lq_else h1 h2]
          refine Ev.eq (f := fun k => lines_quoted.l0 k s (nmx (out ++ [c])) ((n + 1 : Nat) : Int)) (fun k => ?_) (ih l (out ++ [c]) (n + 1) (by omega) hnx (by omega) (by simp; omega))
          simp only [lines_quoted.l0]
          rw [if_pos (by omega), if_pos (by omega), hb, if_neg h1', if_neg h2', ew, if_pos (by rw [nmx_len]; omega), nmx_snoc]
theorem quoted_f {c : UInt8} {l : List UInt8} (hs : l.length ≤ 70368744) : Ev (fun k => lines_quoted.f k (B (c :: l))) (lqR (lqL l [])) := by
  unfold lines_quoted.f
  exact quoted_l0 (s := B (c :: l)) (by rw [B_size]; simp; omega) l.length l [] 1 (Nat.le_refl _) (by rw [L_B]; rfl) (by rw [B_size]; simp) (by simp)
theorem lq_len : ∀ (N : Nat) (l out a b : List UInt8), l.length ≤ N → lqL l out = some (a, b) → b.length < l.length ∧ a.length ≤ out.length + l.length := by
  intro N
  induction N with
  | zero => intro l out a b h e; obtain rfl : l = [] := List.eq_nil_of_length_eq_zero (by omega); simp [lqL] at e
  | succ N ih =>
    intro l out a b h e
    cases l with
    | nil => simp [lqL] at e
    | cons c l =>
      simp only [List.length_cons] at h ⊢
      by_cases h1 : c = 34
      · subst h1; rw [lq_end] at e; simp only [Option.some.injEq, Prod.mk.injEq] at e; obtain ⟨rfl, rfl⟩ := e; omega
      · by_cases h2 : c = 92
        · subst h2
          cases l with
          | nil => simp [lqL] at e
          | cons d l =>
            rw [lq_pair] at e
            simp only [List.length_cons] at h ⊢
            have := ih l _ a b (by omega) e
            simp at this; omega
        · rw [lq_else h1 h2] at e
          have := ih l _ a b (by omega) e
          simp at this; omega
/-! ### words -/
/-- A text cut at the first byte d. -/
def cutC (d : UInt8) (l : List UInt8) : List UInt8 × List UInt8 × Bool := if d ∈ l then (l.takeWhile (· != d), (l.dropWhile (· != d)).drop 1, true) else (l, [], false)
theorem cut_hit {d : UInt8} {a : List UInt8} (h : d ∉ a) (b : List UInt8) : cutC d (a ++ d :: b) = (a, b, true) := by
  have h1 : (a ++ d :: b).takeWhile (· != d) = a ∧ (a ++ d :: b).dropWhile (· != d) = d :: b := by
    induction a with
    | nil => simp
    | cons x a ih =>
      simp only [List.mem_cons, not_or] at h
      have hx : (x != d) = true := by simpa using fun e => h.1 e.symm
      have := ih h.2
      simp [List.takeWhile_cons, List.dropWhile_cons, hx, this.1, this.2]
  unfold cutC
  rw [if_pos (by simp), h1.1, h1.2]; rfl
theorem cut_miss {d : UInt8} {a : List UInt8} (h : d ∉ a) : cutC d a = (a, [], false) := by unfold cutC; rw [if_neg h]
def wdL (s : List UInt8) (d : UInt8) : List UInt8 × List UInt8 × Bool × Bool :=
  match trimL s with
  | [] => ([], [], false, false)
  | c :: l =>
    if c = 34 then
      match lqL l [] with
      | none => ([], [], false, false)
      | some (w, r) =>
        match trimL r with
        | [] => (w, [], false, true)
        | x :: r' => if x = d then (w, r', true, true) else (w, x :: r', false, false)
    else
      (trimL (cutC d (c :: l)).1, (cutC d (c :: l)).2.1, (cutC d (c :: l)).2.2, (trimL (cutC d (c :: l)).1 != []) && !(trimL (cutC d (c :: l)).1).contains 34)
theorem cutC_len (d : UInt8) (l : List UInt8) : (cutC d l).1.length ≤ l.length ∧ (cutC d l).2.1.length ≤ l.length := by
  unfold cutC
  split
  · have h1 := (List.takeWhile_prefix (l := l) (· != d)).length_le
    have h2 := (List.dropWhile_suffix (l := l) (· != d)).length_le
    simp only [List.length_drop]; omega
  · simp
theorem ix_one (l : List UInt8) (d : UInt8) : (d ∉ l → Lib.index l [d] = -1) ∧ (∀ a b, d ∉ a → l = a ++ d :: b → Lib.index l [d] = (a.length : Int)) := by
  constructor
  · intro h
    refine Lib.index_none (fun j hj => ?_)
    rw [Bool.eq_false_iff]
    intro ho
    exact h (List.mem_of_getElem? (Lib.occAt_head rfl ho))
  · rintro a b h rfl
    refine Lib.index_first (by simp) ?_ (fun j hj => ?_)
    · unfold Lib.occAt
      rw [List.drop_left]
      exact List.isPrefixOf_iff_prefix.2 ⟨b, rfl⟩
    · rw [Bool.eq_false_iff]
      intro ho
      have := Lib.occAt_head rfl ho
      rw [List.getElem?_append_left hj, List.getElem?_eq_getElem hj] at this
      exact h (by rw [← Option.some.inj this]; exact List.getElem_mem hj)
theorem mem_cut {d : UInt8} {l : List UInt8} (h : d ∈ l) : ∃ a b, d ∉ a ∧ l = a ++ d :: b := by
  refine ⟨l.takeWhile (· != d), (l.dropWhile (· != d)).drop 1, fun hm => ?_, ?_⟩
  · have := List.all_eq_true.1 (take_all (· != d) l) d hm
    simp at this
  · cases hd : l.dropWhile (· != d) with
    | nil =>
      have := dropW_nil.1 hd d h
      simp at this
    | cons x t =>
      have hx := List.head?_dropWhile_not (· != d) l
      rw [hd] at hx
      simp at hx
      subst hx
      have := List.takeWhile_append_dropWhile (p := (· != x)) (l := l)
      rw [hd] at this
      simpa using this.symm
theorem libcut (d : UInt8) (l : List UInt8) : Lib.cut l [d] = cutC d l := by
  unfold Lib.cut
  by_cases h : d ∈ l
  · obtain ⟨a, b, h1, rfl⟩ := mem_cut h
    rw [(ix_one _ d).2 a b h1 rfl, cut_hit h1]
    simp
  · rw [(ix_one l d).1 h, cut_miss h]; simp
theorem cut_f {s : ByteArray} (hs : s.size ≤ 70368744) (d : UInt8) : strings_Cut.f s (B [d]) = some (B (cutC d (L s)).1, B (cutC d (L s)).2.1, (cutC d (L s)).2.2) := by
  unfold strings_Cut.f
  rw [if_pos (by omega)]
  have : Lib.cut s.data.toList (B [d]).data.toList = cutC d (L s) := libcut d (L s)
  rw [this]; rfl
theorem enc_ascii {d : UInt8} (h : d.toNat < 128) : Utf8.encode (d.toNat : Int) = B [d] := by
  have : ∀ n, n < 128 → Utf8.encode ((n : Nat) : Int) = B [UInt8.ofNat n] := by decide +kernel
  have h2 := this d.toNat h
  rwa [UInt8.ofNat_toNat] at h2
theorem rune_f (l : List UInt8) : strings_ContainsRune.f (B l) 34 = some (l.contains 34) := by
  unfold strings_ContainsRune.f
  rw [if_pos ⟨by decide, by decide⟩]
  congr 1
  have e : (34 : Int).toNat.toUInt8 = 34 := rfl
  rw [e]
  have hl : (B l).data.toList = l := L_B l
  rw [hl]
  by_cases h : (34 : UInt8) ∈ l
  · rw [List.contains_iff_mem.2 h, decide_eq_true_iff]
    rcases Int.lt_or_le (Lib.indexByte l 34) 0 with h1 | h1
    · exact absurd h (ix_none h1)
    · exact h1
  · have : l.contains 34 = false := by rw [Bool.eq_false_iff]; exact fun e => h (List.contains_iff_mem.1 e)
    rw [this, decide_eq_false_iff_not]
    intro h1
    obtain ⟨k, hk⟩ : ∃ k : Nat, Lib.indexByte l 34 = (k : Int) := ⟨(Lib.indexByte l 34).toNat, by omega⟩
    have h2 := ix_some hk
    have : (34 : UInt8) ∈ l.drop k := by rw [h2.2.2]; simp
    exact h (List.mem_of_mem_drop this)
theorem toL_nil (l : List UInt8) : ((B l).toList = ([] : List UInt8)) ↔ l = [] := by rw [toL, L_B]
theorem bt_hd (c : UInt8) (l : List UInt8) : bt (B (c :: l)) 0 = (c.toNat : Int) := bt_of (s := B (c :: l)) (n := 0) (l := l) (by rw [L_B]; rfl)
def wdR (x : List UInt8 × List UInt8 × Bool × Bool) : ByteArray × ByteArray × Bool × Bool := (B x.1, B x.2.1, x.2.2.1, x.2.2.2)
theorem word_j2 (w r : List UInt8) (e i : Bool) (h : e = true → r ≠ []) : Ev (fun k => lines_word.j2 k (B w) (B r) e i) (B w, B (if e then r.drop 1 else r), e, i) := by
  refine Ev.eq (f := fun _ => some _) (fun k => ?_) (Ev.pure _)
  simp only [lines_word.j2]
  cases e with
  | false => rfl
  | true =>
    have hr : 1 ≤ r.length := by have := List.length_pos_iff.2 (h rfl); omega
    rw [if_pos rfl, if_pos (by rw [B_size]; omega)]
    rw [show (B r).extract 1 (B r).size = B (r.drop 1) from L_inj (by rw [L_ext_end, L_B, L_B])]; rfl
theorem word_f {s : ByteArray} (hs : s.size ≤ 70368744) {d : UInt8} (hd : d.toNat < 128) : Ev (fun k => lines_word.f k s (d.toNat : Int)) (wdR (wdL (L s) d)) := by
  have hl := trimL_len (L s)
  rw [L_len] at hl
  unfold lines_word.f
  refine Ev.bindc (ltrim_f (by omega)) ?_
  simp only [toL_nil]
  unfold wdL
  have hcut : ∀ t : List UInt8, t.length ≤ s.size → Ev (fun k => lines_word.j0 k (B t) (d.toNat : Int) false) (wdR (trimL (cutC d t).1, (cutC d t).2.1, (cutC d t).2.2, (trimL (cutC d t).1 != []) && !(trimL (cutC d t).1).contains 34)) := by
    intro t ht
    have hc := cutC_len d t
    have e1 := cut_f (s := B t) (by rw [B_size]; omega) d
    rw [L_B] at e1
    have e2 := ltrim_f (x := B (cutC d t).1) (by rw [B_size]; omega)
    rw [L_B] at e2
    refine Ev.eq (f := fun _ => some _) (fun k => ?_) (Ev.pure _)
    simp only [lines_word.j0]
    rw [if_neg (by simp), enc_ascii hd, e1, Option.bind_some, e2, Option.bind_some]
    simp only [toL_nil]
    by_cases h0 : trimL (cutC d t).1 = []
    · rw [if_pos h0, h0]; rfl
    · rw [if_neg h0, rune_f, Option.bind_some]
      have : (trimL (cutC d t).1 != []) = true := by simpa using h0
      rw [this, Bool.true_and]; rfl
  generalize trimL (L s) = t at hl
  cases t with
  | nil =>
    simp only [if_true]
    have := hcut [] (by simp)
    rw [cut_miss (by simp)] at this
    exact this
  | cons c l =>
    have hz : 0 < ((B (c :: l)).size : Int) := by rw [B_size]; simp only [List.length_cons]; omega
    simp only [reduceCtorEq, if_false, if_pos hz, bt_hd]
    by_cases h1 : c = 34
    · subst h1
      simp only [if_true, show (((34 : UInt8).toNat : Int) == 34) = true from rfl]
      simp only [List.length_cons] at hl
      have hq := quoted_f (c := 34) (l := l) (by omega)
      have hlq : ∀ a b, lqL l [] = some (a, b) → b.length < l.length ∧ a.length ≤ l.length := fun a b e => by have := lq_len l.length l [] a b (Nat.le_refl _) e; simpa using this
      refine Ev.eq (f := fun k => (lines_quoted.f k (B (34 :: l))).bind fun bt135 => ((lines_trim.f bt135.2.1).bind fun t138 => (if t138.toList = ([] : List UInt8) then (lines_word.j1 k bt135.1 t138 false bt135.2.2) else (if 0 < (t138.size : Int) then (lines_word.j1 k bt135.1 t138 ((bt t138 0) == (d.toNat : Int)) bt135.2.2) else (none))))) (fun k => by simp only [lines_word.j0, if_true]) ?_
      refine Ev.bind2 hq ?_
      cases hk : lqL l [] with
      | none =>
        refine Ev.bindc (a := B []) (ltrim_f (x := (⟨#[]⟩ : ByteArray)) (by decide)) ?_
        simp only [toL_nil, if_true, lqR]
        refine Ev.eq (f := fun k => lines_word.j2 k (B []) (B []) false false) (fun k => by simp only [lines_word.j1]; rfl) ?_
        exact word_j2 [] [] false false (by simp)
      | some x =>
        obtain ⟨w, r⟩ := x
        obtain ⟨hl1, hl2⟩ := hlq w r hk
        have e2 := ltrim_f (x := B r) (by rw [B_size]; omega)
        rw [L_B] at e2
        refine Ev.bindc e2 ?_
        have hl3 := trimL_len r
        simp only [lqR, toL_nil]
        generalize trimL r = t at hl3
        cases t with
        | nil =>
          simp only [if_true]
          refine Ev.eq (f := fun k => lines_word.j2 k (B w) (B []) false true) (fun k => by simp only [lines_word.j1, if_true, Bool.false_eq_true, if_false]; rw [show ((B []).toList == ([] : List UInt8)) = true by rw [toL, L_B]; rfl]) ?_
          exact word_j2 w [] false true (by simp)
        | cons x r' =>
          have hz2 : 0 < ((B (x :: r')).size : Int) := by rw [B_size]; simp only [List.length_cons]; omega
          simp only [reduceCtorEq, if_false, if_pos hz2, bt_hd]
          by_cases hx : x = d
          · subst hx
            simp only [beq_self_eq_true, if_true]
            refine Ev.eq (f := fun k => lines_word.j2 k (B w) (B (x :: r')) true true) (fun k => by simp only [lines_word.j1, if_true]) ?_
            exact word_j2 w (x :: r') true true (by simp)
          · have hx' : ((x.toNat : Int) == (d.toNat : Int)) = false := by rw [beq_eq_false_iff_ne]; exact fun e => hx ((c_eq x d).1 e)
            simp only [hx', if_neg hx]
            refine Ev.eq (f := fun k => lines_word.j2 k (B w) (B (x :: r')) false false) (fun k => ?_) (word_j2 w (x :: r') false false (by simp))
            simp only [lines_word.j1, if_true, Bool.false_eq_true, if_false]
            have : ((B (x :: r')).toList == ([] : List UInt8)) = false := by rw [toL, L_B]; rfl
            rw [this]
    · have h1' : ((c.toNat : Int) == 34) = false := by rw [beq_eq_false_iff_ne]; exact fun e => h1 ((c_eq c 34).1 e)
      simp only [h1', if_neg h1]
      exact hcut (c :: l) hl
/-! ### values -/
theorem values_step {s : ByteArray} (hs : s.size ≤ 70368744) {out : List ByteArray} (ho : out.length ≤ 1000000) {w r : List UInt8} {m : Bool} (h : wdL (L s) 44 = (w, r, m, true)) {X : List ByteArray × Int}
    (k : Ev (fun k => lines_Values.l0 k (B r) (out ++ [B w]) m) X) : Ev (fun k => lines_Values.l0 k s out true) X := by
  have hw := word_f hs (d := 44) (by decide)
  rw [h] at hw
  refine Ev.eq (f := fun k => (lines_word.f k s 44).bind fun bt145 => (if bt145.2.2.2 = true then (if out.length < 8796093022208 then (lines_Values.l0 k bt145.2.1 (out ++ [bt145.1]) bt145.2.2.1) else (none)) else (some (([] : List ByteArray), 5)))) (fun k => by simp only [lines_Values.l0, if_true]) ?_
  refine Ev.bind2 hw ?_
  simp only [wdR, if_true, if_pos (show out.length < 8796093022208 by omega)]
  exact k
theorem values_bad {s : ByteArray} (hs : s.size ≤ 70368744) {out : List ByteArray} (h : (wdL (L s) 44).2.2.2 = false) : Ev (fun k => lines_Values.l0 k s out true) ([], 5) := by
  have hw := word_f hs (d := 44) (by decide)
  refine Ev.eq (f := fun k => (lines_word.f k s 44).bind fun bt145 => (if bt145.2.2.2 = true then (if out.length < 8796093022208 then (lines_Values.l0 k bt145.2.1 (out ++ [bt145.1]) bt145.2.2.1) else (none)) else (some (([] : List ByteArray), 5)))) (fun k => by simp only [lines_Values.l0, if_true]) ?_
  refine Ev.bind2 hw ?_
  simp only [if_neg (show ¬ (wdR (wdL (L s) 44)).2.2.2 = true by simp only [wdR]; rw [h]; simp)]
  exact Ev.pure _
theorem values_end (s : ByteArray) {out : List ByteArray} : Ev (fun k => lines_Values.l0 k s out false) (if 16 < out.length then ([], 7) else (out, 0)) := by
  refine Ev.eq (f := fun _ => some _) (fun k => ?_) (Ev.pure _)
  simp only [lines_Values.l0, Bool.false_eq_true, if_false]
  by_cases h : 16 < out.length
  · rw [if_pos h, if_pos (by omega)]
  · rw [if_neg h, if_neg (by omega)]
theorem values_f {s : ByteArray} (hs : s.size ≤ 70368744) {X : List ByteArray × Int} (hp : (L s).all prC = true) (h : Ev (fun k => lines_Values.l0 k s [] true) X) : Ev (fun k => lines_Values.f k s) X := by
  unfold lines_Values.f
  refine Ev.bind2 (printable_f (by omega)) ?_
  rw [hp]
  simp only [if_true]
  exact h
theorem values_unprintable {s : ByteArray} (hs : s.size ≤ 70368744) (hp : (L s).all prC = false) : Ev (fun k => lines_Values.f k s) ([], 5) := by
  unfold lines_Values.f
  refine Ev.bind2 (printable_f (by omega)) ?_
  rw [hp]
  simp only [Bool.false_eq_true, if_false]
  exact Ev.pure _
/-! ### rows of texts -/
theorem eqS_l0 {l : List ByteArray} (hl : l.length ≤ 1000000) : ∀ (d j : Nat), j + d = l.length → Ev (fun k => slices_Equal_string_string.l0 k l l (l.length : Int) (j : Int)) true := by
  intro d
  induction d with
  | zero =>
    intro j h
    refine Ev.eq (f := fun _ => some _) (fun k => ?_) (Ev.pure _)
    simp only [slices_Equal_string_string.l0]
    rw [if_neg (by omega)]
  | succ d ih =>
    intro j h
    have ew := w1 (n := j) (m := l.length) (by omega) (by omega)
    refine Ev.eq (f := fun k => slices_Equal_string_string.l0 k l l (l.length : Int) ((j + 1 : Nat) : Int)) (fun k => ?_) (ih (j + 1) (by omega))
    simp only [slices_Equal_string_string.l0]
    rw [if_pos (by omega), if_pos (by omega), if_pos (by omega), if_pos (by omega), if_pos trivial, ew]
theorem eqS {l : List ByteArray} (hl : l.length ≤ 1000000) : Ev (fun k => slices_Equal_string_string.f k l l) true := by
  unfold slices_Equal_string_string.f
  simp only [if_true]
  exact eqS_l0 hl l.length 0 (by omega)
end Go.Proofs.YtgabcckljhnocaaDoor.S
