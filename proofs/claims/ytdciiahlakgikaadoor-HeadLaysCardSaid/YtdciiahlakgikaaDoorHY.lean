/- A field laid anew, by the program and by the document. -/
import Derived.Test.YtdciiahlakgikaaDoorHT
import Derived.Test.YtdciiahlakgikaaDoorQx7
import Derived.Test.YtdciiahlakgikaaDoorQx11
import Derived.Test.YtdciiahlakgikaaDoorQx5
namespace Go.Proofs.YtdciiahlakgikaaDoor.S
open Go.RowKit Go.Proofs.YtdciiahlakgikaaDoor.Q Go.Proofs.YtdciiahlakgikaaDoorW.PrintWords Go.Proofs.YtdciiahlakgikaaDoorW.PrintLast Go.Proofs.YtdciiahlakgikaaDoorW.PrintMore
set_option linter.unusedVariables false
set_option linter.unusedSimpArgs false
/-- A place behind a comma where a blank stands. -/
def cnd (l : List UInt8) (i : Nat) : Bool := l[i]? == some 32 && l[i - 1]? == some 44
/-- The place where a line is folded, one more place looked at. -/
def stp (l : List UInt8) (b : Int) (i : Nat) : Int := if cnd l i = true then (if i ≤ 78 then (i : Int) else if b < 0 then (i : Int) else b) else b
def fld (l : List UInt8) : Nat → Nat → Int → Int
  | 0, _, b => b
  | d + 1, i, b => fld l d (i + 1) (stp l b i)
def fldV (l : List UInt8) (least : Nat) : Int := if l.length ≤ 78 then -1 else fld l (l.length - least) least (-1)
theorem fld_bd (l : List UInt8) : ∀ (d i : Nat) (b : Int) (m : Nat), i + d = l.length → (b = -1 ∨ ((m : Int) ≤ b ∧ b < i)) → m ≤ i → fld l d i b = -1 ∨ ((m : Int) ≤ fld l d i b ∧ fld l d i b < l.length) := by
  intro d
  induction d with
  | zero => intro i b m h hb hm; unfold fld; omega
  | succ d ih =>
    intro i b m h hb hm
    unfold fld
    refine ih (i + 1) _ m (by omega) ?_ (by omega)
    unfold stp
    split
    · split
      · right; omega
      · split
        · right; omega
        · omega
    · omega
theorem fldV_bd (l : List UInt8) (least : Nat) (hl : least ≤ l.length) : fldV l least = -1 ∨ ((least : Int) ≤ fldV l least ∧ fldV l least < l.length) := by
  unfold fldV
  split
  · exact .inl rfl
  · exact fld_bd l _ _ _ _ (by omega) (.inl rfl) (Nat.le_refl _)
/-- Once a place behind the 78th is taken, it stays. -/
theorem fld_stay (l : List UInt8) : ∀ (d i : Nat) (b : Int), 78 < i → 0 ≤ b → fld l d i b = b := by
  intro d
  induction d with
  | zero => intro i b _ _; rfl
  | succ d ih =>
    intro i b h hb
    unfold fld
    have : stp l b i = b := by
      unfold stp
      split
      · rw [if_neg (by omega), if_neg (by omega)]
      · rfl
    rw [this]
    exact ih (i + 1) b (by omega) hb
theorem btl {s : ByteArray} {n : Nat} (h : n < s.size) (d : UInt8) : bt s (n : Int) = (d.toNat : Int) ↔ (L s)[n]? = some d := by
  have hn : n < (L s).length := by rw [L_len]; exact h
  have hd := List.drop_eq_getElem_cons hn
  rw [bt_of hd, c_eq, List.getElem?_eq_getElem hn]
  simp
theorem cnd_of {s : ByteArray} {i : Nat} (h : i < s.size) (h0 : 1 ≤ i) : cnd (L s) i = true ↔ (bt s (i : Int) = 32 ∧ bt s ((i - 1 : Nat) : Int) = 44) := by
  unfold cnd
  have e1 : bt s (i : Int) = 32 ↔ (L s)[i]? = some 32 := btl h 32
  have e2 : bt s ((i - 1 : Nat) : Int) = 44 ↔ (L s)[i - 1]? = some 44 := btl (by omega) 44
  rw [e1, e2, Bool.and_eq_true, beq_iff_eq, beq_iff_eq]
theorem fold_v0 {s : ByteArray} (hs : s.size ≤ 40000) : ∀ (d i : Nat) (b : Int), i + d = s.size → 1 ≤ i → Ev (fun k => head_fold.l0 k s b (i : Int)) (fld (L s) d i b) := by
  intro d
  induction d with
  | zero =>
    intro i b h h1
    refine Ev.eq (f := fun _ => some b) (fun k => ?_) (Ev.pure _)
    simp only [head_fold.l0]
    rw [if_neg (by omega)]
  | succ d ih =>
    intro i b h h1
    have hi : i < s.size := by omega
    have ew : wrap64 ((i : Int) + 1) = ((i + 1 : Nat) : Int) := w1 hi (by omega)
    have ep : wrap64 ((i : Int) - 1) = ((i - 1 : Nat) : Int) := by rw [wk (by omega) (by omega)]; omega
    have hc := cnd_of hi h1
    unfold fld
    have skip : Ev (fun k => head_fold.j1 k s b (i : Int) true) (fld (L s) d (i + 1) b) := by
      refine Ev.eq (fun k => ?_) (ih (i + 1) b (by omega) (by omega))
      simp only [head_fold.j1]
      rw [if_pos trivial, ew]
    by_cases c1 : bt s (i : Int) = 32
    · by_cases c2 : bt s ((i - 1 : Nat) : Int) = 44
      · have hcc := hc.2 ⟨c1, c2⟩
        have go1 : ∀ x, stp (L s) b i = x → Ev (fun k => if b ≥ 0 then head_fold.j1 k s b (i : Int) (decide ((i : Int) > 78)) else head_fold.j1 k s b (i : Int) false) (fld (L s) d (i + 1) x) := by
          intro x hx
          unfold stp at hx
          rw [if_pos hcc] at hx
          by_cases h78 : i ≤ 78
          · rw [if_pos h78] at hx
            subst hx
            have hd : decide ((i : Int) > 78) = false := decide_eq_false (by omega)
            have take : Ev (fun k => head_fold.j1 k s b (i : Int) false) (fld (L s) d (i + 1) (i : Int)) := by
              refine Ev.eq (fun k => ?_) (ih (i + 1) (i : Int) (by omega) (by omega))
              simp only [head_fold.j1]
              rw [if_neg (by simp), if_neg (by omega), ew]
            by_cases hb0 : b ≥ 0
            · simp only [if_pos hb0, hd]; exact take
            · simp only [if_neg hb0]; exact take
          · rw [if_neg h78] at hx
            have hd : decide ((i : Int) > 78) = true := decide_eq_true (by omega)
            by_cases hb0 : b ≥ 0
            · rw [if_neg (by omega)] at hx
              subst hx
              simp only [if_pos hb0, hd]; exact skip
            · rw [if_pos (by omega)] at hx
              subst hx
              simp only [if_neg hb0]
              rw [fld_stay _ _ _ _ (by omega) (by omega)]
              refine Ev.eq (f := fun _ => some (i : Int)) (fun k => ?_) (Ev.pure _)
              simp only [head_fold.j1]
              rw [if_neg (by simp), if_pos (by omega)]
        refine Ev.eq (fun k => ?_) (go1 _ rfl)
        simp only [head_fold.l0]
        rw [if_pos (by omega), if_pos (by omega), if_pos c1, ep, if_pos (by omega), if_pos (by omega), if_pos c2]
      · have hst : stp (L s) b i = b := by unfold stp; rw [if_neg (fun h => c2 (hc.1 h).2)]
        rw [hst]
        refine Ev.eq (fun k => ?_) skip
        simp only [head_fold.l0]
        rw [if_pos (by omega), if_pos (by omega), if_pos c1, ep, if_pos (by omega), if_pos (by omega), if_neg c2]
    · have hst : stp (L s) b i = b := by unfold stp; rw [if_neg (fun h => c1 (hc.1 h).1)]
      rw [hst]
      refine Ev.eq (fun k => ?_) skip
      simp only [head_fold.l0]
      rw [if_pos (by omega), if_pos (by omega), if_neg c1]
theorem fold_v {s : ByteArray} (hs : s.size ≤ 40000) {least : Nat} (h1 : 1 ≤ least) (h2 : least ≤ s.size ∨ s.size ≤ 78) : Ev (fun k => head_fold.f k s (least : Int)) (fldV (L s) least) := by
  have hL := L_len s
  unfold head_fold.f fldV
  by_cases h : s.size ≤ 78
  · have h' : (s.size : Int) ≤ 78 := by omega
    simp only [if_pos h']
    rw [if_pos (by omega)]
    exact Ev.pure _
  · have h' : ¬ (s.size : Int) ≤ 78 := by omega
    simp only [if_neg h']
    rw [if_neg (by omega), hL]
    exact fold_v0 hs (s.size - least) least (-1) (by omega) h1
/-- The document's look for the place. -/
theorem ref_l2_end {s raw : ByteArray} (hs : s.size ≤ 40000) {R : ByteArray × ByteArray × ByteArray × Int} : ∀ (d i : Nat) (b : Int), i + d = s.size → 1 ≤ i →
    Ev (fun k => postriderref07_Lay.l2 k s raw (fld (L s) d i b) ((s.size : Nat) : Int)) R → Ev (fun k => postriderref07_Lay.l2 k s raw b (i : Int)) R := by
  intro d
  induction d with
  | zero =>
    intro i b h h1 hR
    obtain rfl : i = s.size := by omega
    exact hR
  | succ d ih =>
    intro i b h h1 hR
    have hi : i < s.size := by omega
    have ew : wrap64 ((i : Int) + 1) = ((i + 1 : Nat) : Int) := w1 hi (by omega)
    have ep : wrap64 ((i : Int) - 1) = ((i - 1 : Nat) : Int) := by rw [wk (by omega) (by omega)]; omega
    have hc := cnd_of hi h1
    refine Ev.eq (f := fun k => postriderref07_Lay.l2 k s raw (stp (L s) b i) ((i + 1 : Nat) : Int)) (fun k => ?_) (ih (i + 1) (stp (L s) b i) (by omega) (by omega) hR)
    simp only [postriderref07_Lay.l2]
    unfold stp
    rw [if_pos (by omega), if_pos (by omega), ep, ew]
    by_cases c1 : bt s (i : Int) = 32
    · rw [if_pos c1, if_pos (by omega), if_pos (by omega)]
      by_cases c2 : bt s ((i - 1 : Nat) : Int) = 44
      · rw [if_pos c2, if_pos (hc.2 ⟨c1, c2⟩)]
        by_cases h78 : i ≤ 78
        · rw [if_pos (by omega), if_pos h78]
        · rw [if_neg (by omega), if_neg h78]
          by_cases hb : b < 0
          · rw [if_pos hb, if_pos hb]
          · rw [if_neg hb, if_neg hb]
      · rw [if_neg c2, if_neg (fun h => c2 (hc.1 h).2)]
    · rw [if_neg c1, if_neg (fun h => c1 (hc.1 h).1)]
theorem flat_le (ls : List (List UInt8)) : (flat ls).length = ls.flatten.length + 2 * ls.length := by
  induction ls with
  | nil => rfl
  | cons a t ih => rw [flat_cons, List.length_append, List.length_cons, List.length_cons, ih, List.flatten_cons, List.length_append, List.length_cons]; omega
/-- Both rows of lines, from a line on. -/
theorem lay_both : ∀ (N : Nat) (c : List UInt8) (acc : List (List UInt8)) (least : Nat), c.length ≤ N → 1 ≤ least → least ≤ c.length → acc.length + c.length ≤ 9000 → acc.flatten.length + c.length ≤ 9000 →
    ∃ a t, (acc ++ a :: t).flatten = acc.flatten ++ c ∧ (acc ++ a :: t).length ≤ acc.length + c.length + 1 ∧ c.take (least - 1) <+: a ∧
      (∀ R, Ev (fun k => head_field.f k ((acc ++ a :: t).map B)) R → Ev (fun k => head_Lay.l0 k (acc.map B) (B c) (fldV c least)) (R.1, R.2.1, R.2.2.1, 0)) ∧
      (∀ R, Ev (fun k => postriderref07_field.f k (B (flat (acc ++ a :: t)))) R → Ev (fun k => postriderref07_Lay.l1 k (B c) (least : Int) (B (flat acc))) (R.1, R.2.1, R.2.2.1, 0)) := by
  intro N
  induction N with
  | zero => intro c acc least h h1 h2; omega
  | succ N ih =>
    intro c acc least hN h1 h2 hb hb2
    have hfa := flat_le acc
    have hflat : flat (acc ++ [c]) = flat acc ++ c ++ [13, 10] := by rw [flat_app]; simp [flat]
    have endR : ∀ R, Ev (fun k => postriderref07_field.f k (B (flat (acc ++ [c])))) R → ∀ k0, (∀ k, k0 k = (if (B (flat acc)).size + (B c).size ≤ 9223372036854775807 then (if (B (flat acc) ++ B c).size + 2 ≤ 9223372036854775807 then ((postriderref07_field.f k ((B (flat acc) ++ B c) ++ (⟨#[13, 10]⟩ : ByteArray))).bind fun bt231 => (some (bt231.1, bt231.2.1, bt231.2.2.1, (0 : Int)))) else (none)) else (none))) → Ev k0 (R.1, R.2.1, R.2.2.1, 0) := by
      intro R hR k0 hk
      refine Ev.cong hk ?_
      rw [B_app, show (⟨#[13, 10]⟩ : ByteArray) = B [13, 10] from rfl, B_app, ← hflat]
      have q1 : (B (flat acc)).size + (B c).size ≤ 9223372036854775807 := by rw [B_size, B_size]; omega
      have q2 : (B (flat acc ++ c)).size + 2 ≤ 9223372036854775807 := by rw [B_size, List.length_append]; omega
      simp only [if_pos q1, if_pos q2]
      exact Ev.bind2 hR (Ev.pure _)
    rcases fldV_bd c least h2 with hv | ⟨hv1, hv2⟩
    · -- it is not folded
      refine ⟨c, [], by simp, by simp only [List.length_append, List.length_singleton]; omega, List.take_prefix _ _, fun R hR => ?_, fun R hR => ?_⟩
      · rw [hv]
        refine Ev.eq (f := fun k => (head_field.f k ((acc ++ [c]).map B)).bind fun bt211 => (some (bt211.1, bt211.2.1, bt211.2.2.1, (0 : Int)))) (fun k => ?_) (Ev.bind2 hR (Ev.pure _))
        simp only [head_Lay.l0]
        rw [if_neg (by omega), if_pos (by rw [List.length_map]; omega), List.map_append]
        try rfl
      · by_cases h78 : c.length ≤ 78
        · refine Ev.step (f := fun k => if (B (flat acc)).size + (B c).size ≤ 9223372036854775807 then (if (B (flat acc) ++ B c).size + 2 ≤ 9223372036854775807 then ((postriderref07_field.f k ((B (flat acc) ++ B c) ++ (⟨#[13, 10]⟩ : ByteArray))).bind fun bt231 => (some (bt231.1, bt231.2.1, bt231.2.2.1, (0 : Int)))) else (none)) else (none)) (fun k => ?_) (endR R hR _ (fun k => rfl))
          simp only [postriderref07_Lay.l1]
          rw [if_neg (by rw [B_size]; omega)]
        · have hv' : fld c (c.length - least) least (-1) = -1 := by have := hv; unfold fldV at this; rwa [if_neg h78] at this
          refine Ev.eq (f := fun k => postriderref07_Lay.l2 k (B c) (B (flat acc)) (-1) (least : Int)) (fun k => ?_) ?_
          · simp only [postriderref07_Lay.l1]
            rw [if_pos (by rw [B_size]; omega)]
          · refine ref_l2_end (by rw [B_size]; omega) (c.length - least) least (-1) (by rw [B_size]; omega) h1 ?_
            rw [L_B, hv']
            refine Ev.step (f := fun k => if (B (flat acc)).size + (B c).size ≤ 9223372036854775807 then (if (B (flat acc) ++ B c).size + 2 ≤ 9223372036854775807 then ((postriderref07_field.f k ((B (flat acc) ++ B c) ++ (⟨#[13, 10]⟩ : ByteArray))).bind fun bt231 => (some (bt231.1, bt231.2.1, bt231.2.2.1, (0 : Int)))) else (none)) else (none)) (fun k => ?_) (endR R hR _ (fun k => rfl))
            simp only [postriderref07_Lay.l2]
            rw [if_neg (by omega), if_pos (by omega)]
    · -- it is folded
      have h78 : ¬ c.length ≤ 78 := fun h => by unfold fldV at hv1; rw [if_pos h] at hv1; omega
      obtain ⟨j, hj⟩ : ∃ j : Nat, fldV c least = (j : Int) := ⟨(fldV c least).toNat, by omega⟩
      rw [hj] at hv1 hv2
      have hjl : j < c.length := by omega
      have hlj : least ≤ j := by omega
      have hdl : (c.drop j).length = c.length - j := List.length_drop
      have htl : (c.take j).length = j := by rw [List.length_take]; omega
      have hE : (B c).extract j (B c).size = B (c.drop j) := by
        rw [ext_B, B_size, L_B, List.take_of_length_le (by rw [List.length_drop]; omega)]
      have hT : (B c).extract 0 j = B (c.take j) := by rw [ext_B, L_B, List.drop_zero, Nat.sub_zero]
      have hfl : (acc ++ [c.take j]).flatten = acc.flatten ++ c.take j := by simp
      have hacc2 : flat (acc ++ [c.take j]) = flat acc ++ c.take j ++ [13, 10] := by rw [flat_app]; simp [flat]
      have hfv : fld c (c.length - least) least (-1) = (j : Int) := by have := hj; unfold fldV at this; rwa [if_neg h78] at this
      by_cases h2d : 2 ≤ (c.drop j).length
      · obtain ⟨a, t, e1, e2, e3, e4, e5⟩ := ih (c.drop j) (acc ++ [c.take j]) 2 (by omega) (by omega) h2d (by simp; omega) (by rw [hfl, List.length_append]; omega)
        refine ⟨c.take j, a :: t, ?_, ?_, ?_, fun R hR => ?_, fun R hR => ?_⟩
        · have : acc ++ c.take j :: a :: t = acc ++ [c.take j] ++ a :: t := by simp
          rw [this, e1, hfl, List.append_assoc, List.take_append_drop]
        · have : acc ++ c.take j :: a :: t = acc ++ [c.take j] ++ a :: t := by simp
          rw [this]
          simp only [List.length_append, List.length_singleton] at e2 ⊢
          omega
        · exact (List.take_prefix_take_left (by omega))
        · rw [show acc ++ c.take j :: a :: t = acc ++ [c.take j] ++ a :: t by simp] at hR
          have key := e4 R hR
          rw [hj]
          refine Ev.eq (f := fun k => (head_fold.f k (B (c.drop j)) 2).bind fun t207 => head_Lay.l0 k ((acc ++ [c.take j]).map B) (B (c.drop j)) t207) (fun k => ?_) ?_
          · simp only [head_Lay.l0]
            rw [if_pos (by omega), if_pos (by omega), if_pos (by rw [B_size]; omega), if_pos (by rw [List.length_map]; omega), Int.toNat_natCast, hE, hT, List.map_append]; rfl
          · have hf := fold_v (s := B (c.drop j)) (by rw [B_size]; omega) (least := 2) (by omega) (.inl (by rw [B_size]; omega))
            rw [L_B] at hf
            exact Ev.bind2 hf key
        · rw [show acc ++ c.take j :: a :: t = acc ++ [c.take j] ++ a :: t by simp] at hR
          have key := e5 R hR
          refine Ev.eq (f := fun k => postriderref07_Lay.l2 k (B c) (B (flat acc)) (-1) (least : Int)) (fun k => ?_) ?_
          · simp only [postriderref07_Lay.l1]
            rw [if_pos (by rw [B_size]; omega)]
          · refine ref_l2_end (by rw [B_size]; omega) (c.length - least) least (-1) (by rw [B_size]; omega) h1 ?_
            rw [L_B, hfv]
            refine Ev.eq (f := fun k => postriderref07_Lay.l1 k (B (c.drop j)) (2 : Int) (B (flat (acc ++ [c.take j])))) (fun k => ?_) key
            simp only [postriderref07_Lay.l2]
            rw [if_neg (by omega), if_neg (by omega), if_pos (by omega), if_pos (by rw [B_size]; omega), Int.toNat_natCast, hT, hE]
            have q1 : (B (flat acc)).size + (B (c.take j)).size ≤ 9223372036854775807 := by rw [B_size, B_size]; omega
            have q2 : (B (flat acc) ++ B (c.take j)).size + 2 ≤ 9223372036854775807 := by rw [B_app, B_size, List.length_append]; omega
            rw [if_pos q1, if_pos q2, B_app, show (⟨#[13, 10]⟩ : ByteArray) = B [13, 10] from rfl, B_app, ← hacc2]
      · -- one byte is left behind the place
        have hone : (c.drop j).length = 1 := by omega
        have hflat2 : flat (acc ++ [c.take j, c.drop j]) = flat (acc ++ [c.take j]) ++ c.drop j ++ [13, 10] := by
          rw [show acc ++ [c.take j, c.drop j] = acc ++ [c.take j] ++ [c.drop j] by simp, flat_app]; simp [flat]
        refine ⟨c.take j, [c.drop j], ?_, ?_, ?_, fun R hR => ?_, fun R hR => ?_⟩
        · simp
        · simp; omega
        · exact (List.take_prefix_take_left (by omega))
        · rw [hj]
          refine Ev.eq (f := fun k => (head_fold.f k (B (c.drop j)) 2).bind fun t207 => head_Lay.l0 k ((acc ++ [c.take j]).map B) (B (c.drop j)) t207) (fun k => ?_) ?_
          · simp only [head_Lay.l0]
            rw [if_pos (by omega), if_pos (by omega), if_pos (by rw [B_size]; omega), if_pos (by rw [List.length_map]; omega), Int.toNat_natCast, hE, hT, List.map_append]; rfl
          · have hf := fold_v (s := B (c.drop j)) (by rw [B_size]; omega) (least := 2) (by omega) (.inr (by rw [B_size]; omega))
            rw [L_B] at hf
            have hf1 : fldV (c.drop j) 2 = -1 := by unfold fldV; rw [if_pos (by omega)]
            rw [hf1] at hf
            refine Ev.bind2 hf ?_
            refine Ev.eq (f := fun k => (head_field.f k ((acc ++ [c.take j, c.drop j]).map B)).bind fun bt211 => (some (bt211.1, bt211.2.1, bt211.2.2.1, (0 : Int)))) (fun k => ?_) (Ev.bind2 hR (Ev.pure _))
            simp only [head_Lay.l0]
            rw [if_neg (by omega), if_pos (by simp; omega)]
            simp
        · refine Ev.eq (f := fun k => postriderref07_Lay.l2 k (B c) (B (flat acc)) (-1) (least : Int)) (fun k => ?_) ?_
          · simp only [postriderref07_Lay.l1]
            rw [if_pos (by rw [B_size]; omega)]
          · refine ref_l2_end (by rw [B_size]; omega) (c.length - least) least (-1) (by rw [B_size]; omega) h1 ?_
            rw [L_B, hfv]
            refine Ev.eq (f := fun k => postriderref07_Lay.l1 k (B (c.drop j)) (2 : Int) (B (flat (acc ++ [c.take j])))) (fun k => ?_) ?_
            · simp only [postriderref07_Lay.l2]
              rw [if_neg (by omega), if_neg (by omega), if_pos (by omega), if_pos (by rw [B_size]; omega), Int.toNat_natCast, hT, hE]
              have q1 : (B (flat acc)).size + (B (c.take j)).size ≤ 9223372036854775807 := by rw [B_size, B_size]; omega
              have q2 : (B (flat acc) ++ B (c.take j)).size + 2 ≤ 9223372036854775807 := by rw [B_app, B_size, List.length_append]; omega
              rw [if_pos q1, if_pos q2, B_app, show (⟨#[13, 10]⟩ : ByteArray) = B [13, 10] from rfl, B_app, ← hacc2]
            · have hfa2 := flat_le (acc ++ [c.take j])
              rw [hfl, List.length_append] at hfa2
              simp only [List.length_append, List.length_singleton] at hfa2
              refine Ev.eq (f := fun k => (postriderref07_field.f k (B (flat (acc ++ [c.take j, c.drop j])))).bind fun bt231 => (some (bt231.1, bt231.2.1, bt231.2.2.1, (0 : Int)))) (fun k => ?_) (Ev.bind2 hR (Ev.pure _))
              simp only [postriderref07_Lay.l1]
              rw [if_neg (by rw [B_size]; omega), if_pos (by rw [B_size, B_size]; omega), B_app, if_pos (by rw [B_size, List.length_append]; omega), show (⟨#[13, 10]⟩ : ByteArray) = B [13, 10] from rfl, B_app, ← hflat2]
theorem flat_rg {ls : List (List UInt8)} (h : rgL ls.flatten = true) : ∀ x ∈ ls, rgL x = true := by
  intro x hx
  unfold rgL at h ⊢
  refine List.all_eq_true.2 (fun c hc => List.all_eq_true.1 h c (List.mem_flatten.2 ⟨x, hx, hc⟩))
theorem fn_rgC (c : UInt8) : fnC c = true → rgC c = true := byte_all (p := fun c => fnC c = true → rgC c = true) (by decide +kernel) c
theorem fn_blC (c : UInt8) : fnC c = true → blC c = false := byte_all (p := fun c => fnC c = true → blC c = false) (by decide +kernel) c
theorem fn_col (c : UInt8) : fnC c = true → col c = true := byte_all (p := fun c => fnC c = true → col c = true) (by decide +kernel) c
theorem rd_name {n : List UInt8} (h : fnL n = true) : rdL n = n := by
  unfold fnL at h
  simp only [Bool.and_eq_true] at h
  cases hr : n.reverse with
  | nil => unfold rdL; rw [hr]; simp at hr; rw [hr]; rfl
  | cons c t =>
    have hc : c ∈ n := by rw [← List.mem_reverse, hr]; simp
    have := fn_blC c (List.all_eq_true.1 h.2 c hc)
    unfold rdL
    rw [hr, List.dropWhile_cons, if_neg (by rw [this]; simp), ← hr, List.reverse_reverse]
/-- The document's look at a value's bytes. -/
theorem ref_lay_l0 {x0 x1 : ByteArray} (h1 : x1.size ≤ 10000) {R : ByteArray × ByteArray × ByteArray × Int} (hno : rgL (L x1) = false → R = (⟨#[]⟩, ⟨#[]⟩, ⟨#[]⟩, 5))
    (hR : rgL (L x1) = true → Ev (fun k => if x0.size + 2 ≤ 9223372036854775807 then (if (x0 ++ (⟨#[58, 32]⟩ : ByteArray)).size + x1.size ≤ 9223372036854775807 then (postriderref07_Lay.l1 k ((x0 ++ (⟨#[58, 32]⟩ : ByteArray)) ++ x1) (wrap64 ((x0.size : Int) + 3)) (⟨#[]⟩ : ByteArray)) else (none)) else (none)) R) :
    ∀ (l : List UInt8) (n : Nat), (L x1).drop n = l → n ≤ x1.size → rgL ((L x1).take n) = true → Ev (fun k => postriderref07_Lay.l0 k x0 x1 (n : Int)) R := by
  intro l
  induction l with
  | nil =>
    intro n hd hn hp
    have he := drop_end hd
    have : (L x1).take n = L x1 := List.take_of_length_le (by rw [L_len]; omega)
    rw [this] at hp
    refine Ev.eq (fun k => ?_) (hR hp)
    simp only [postriderref07_Lay.l0]
    rw [if_neg (by omega)]
  | cons c l ih =>
    intro n hd hn hp
    have hlt := drop_lt hd
    have hb := bt_of hd
    have ew := w1 hlt (by omega)
    have hn' : n < (L x1).length := by rw [L_len]; exact hlt
    have hc : (L x1)[n] = c := by
      have := List.drop_eq_getElem_cons hn'
      rw [hd] at this; injection this with a _; exact a.symm
    by_cases c1 : rgC c = true
    · refine Ev.eq (f := fun k => postriderref07_Lay.l0 k x0 x1 ((n + 1 : Nat) : Int)) (fun k => ?_) (ih (n + 1) (drop_next hd) (by omega) ?_)
      · simp only [postriderref07_Lay.l0]
        rw [if_pos (by omega), if_pos (by omega), hb, ref_right_f, ew]
        simp only [Option.bind_some]
        rw [if_pos c1]
      · rw [List.take_succ_eq_append_getElem hn', hc]
        unfold rgL at hp ⊢
        rw [List.all_append, hp]; simp [c1]
    · have hf : rgL (L x1) = false := by
        rw [← Bool.not_eq_true]
        intro h
        exact c1 (List.all_eq_true.1 h c (by rw [← hc]; exact List.getElem_mem _))
      rw [hno hf]
      refine Ev.eq (f := fun _ => some _) (fun k => ?_) (Ev.pure _)
      simp only [postriderref07_Lay.l0]
      rw [if_pos (by omega), if_pos (by omega), hb, ref_right_f]
      simp only [Option.bind_some]
      rw [if_neg c1]
/-- A field laid anew: of one make. -/
theorem both_lay {nm v : ByteArray} (h0 : nm.size ≤ 1000) (h1 : v.size ≤ 1000) : ∃ (x : S41) (c : Int), Ev (fun k => head_Lay.f k nm v) (x.f0, x.f1, x.f2, c) ∧ Ev (fun k => postriderref07_Lay.f k nm v) (x.f0, x.f1, x.f2, c) ∧ x.f2.size ≤ 10000 := by
  have hn := named_f (s := nm) (by omega)
  have hn2 := ref_named_f (s := nm) (by omega)
  have hb := byteful_f (s := v) (by omega)
  have hL0 := L_len nm
  have hL1 := L_len v
  by_cases c0 : fnL (L nm) = true
  · rw [c0] at hn hn2
    by_cases c1 : rgL (L v) = true
    · rw [c1] at hb
      -- the whole line
      have hc : (nm ++ (⟨#[58, 32]⟩ : ByteArray)) ++ v = B (L nm ++ (58 :: 32 :: L v)) := by
        apply L_inj
        rw [L_app, L_app, L_B]
        simp [L]
      have hcl : (L nm ++ (58 :: 32 :: L v)).length = nm.size + v.size + 2 := by simp [hL0, hL1]; omega
      have q1 : nm.size + 2 ≤ 9223372036854775807 := by omega
      have q2 : (nm ++ (⟨#[58, 32]⟩ : ByteArray)).size + v.size ≤ 9223372036854775807 := by
        rw [ByteArray.size_append]
        have : (⟨#[58, 32]⟩ : ByteArray).size = 2 := rfl
        omega
      have ew : wrap64 ((nm.size : Int) + 3) = ((nm.size + 3 : Nat) : Int) := by unfold wrap64; omega
      have hrg : rgL (L nm ++ (58 :: 32 :: L v)) = true := by
        unfold rgL at c1 ⊢
        unfold fnL at c0
        simp only [Bool.and_eq_true] at c0
        rw [List.all_append, Bool.and_eq_true, List.all_cons, List.all_cons, c1]
        exact ⟨List.all_eq_true.2 (fun c hc => fn_rgC c (List.all_eq_true.1 c0.2 c hc)), by decide⟩
      -- its rows of lines
      have key : ∃ a t, (a :: t).flatten = L nm ++ (58 :: 32 :: L v) ∧ (a :: t).length ≤ 3000 ∧ (L nm ++ [58, 32]) <+: a ∧
          (∀ R, Ev (fun k => head_field.f k ((a :: t).map B)) R → Ev (fun k => (head_fold.f k (B (L nm ++ (58 :: 32 :: L v))) ((nm.size + 3 : Nat) : Int)).bind fun t203 => head_Lay.l0 k ([] : List ByteArray) (B (L nm ++ (58 :: 32 :: L v))) t203) (R.1, R.2.1, R.2.2.1, 0)) ∧
          (∀ R, Ev (fun k => postriderref07_field.f k (B (flat (a :: t)))) R → Ev (fun k => postriderref07_Lay.l1 k (B (L nm ++ (58 :: 32 :: L v))) ((nm.size + 3 : Nat) : Int) (⟨#[]⟩ : ByteArray)) (R.1, R.2.1, R.2.2.1, 0)) := by
        by_cases hv0 : v.size = 0
        · -- nothing behind the colon
          have hLv : L v = [] := List.eq_nil_of_length_eq_zero (by omega)
          rw [hLv] at hcl hrg ⊢
          have hsz : (B (L nm ++ [58, 32])).size = nm.size + 2 := by rw [B_size]; simp [hL0]
          have hflat : flat [L nm ++ [58, 32]] = L nm ++ [58, 32] ++ [13, 10] := by simp [flat]
          have hfold : Ev (fun k => head_fold.f k (B (L nm ++ [58, 32])) ((nm.size + 3 : Nat) : Int)) (-1) := by
            unfold head_fold.f
            by_cases h : ((B (L nm ++ [58, 32])).size : Int) ≤ 78
            · simp only [if_pos h]; exact Ev.pure _
            · simp only [if_neg h]
              refine Ev.eq (f := fun _ => some (-1)) (fun k => ?_) (Ev.pure _)
              simp only [head_fold.l0]
              rw [if_neg (by rw [hsz]; omega)]
          refine ⟨L nm ++ [58, 32], [], by simp, by simp, List.prefix_refl _, fun R hR => Ev.bind2 hfold ?_, fun R hR => ?_⟩
          · refine Ev.eq (f := fun k => (head_field.f k ([L nm ++ [58, 32]].map B)).bind fun bt211 => (some (bt211.1, bt211.2.1, bt211.2.2.1, (0 : Int)))) (fun k => ?_) (Ev.bind2 hR (Ev.pure _))
            simp only [head_Lay.l0]
            rw [if_neg (by omega), if_pos (by simp)]
            rfl
          · rw [hflat] at hR
            have m1 : (⟨#[]⟩ : ByteArray).size + (B (L nm ++ [58, 32])).size ≤ 9223372036854775807 := by rw [hsz]; have : (⟨#[]⟩ : ByteArray).size = 0 := rfl; omega
            have m0 : (⟨#[]⟩ : ByteArray) ++ B (L nm ++ [58, 32]) = B (L nm ++ [58, 32]) := by
              apply L_inj; rw [L_app, L_B]; simp [L]
            have m2 : (B (L nm ++ [58, 32])).size + 2 ≤ 9223372036854775807 := by rw [hsz]; omega
            have fin : Ev (fun k => if (⟨#[]⟩ : ByteArray).size + (B (L nm ++ [58, 32])).size ≤ 9223372036854775807 then (if ((⟨#[]⟩ : ByteArray) ++ B (L nm ++ [58, 32])).size + 2 ≤ 9223372036854775807 then ((postriderref07_field.f k (((⟨#[]⟩ : ByteArray) ++ B (L nm ++ [58, 32])) ++ (⟨#[13, 10]⟩ : ByteArray))).bind fun bt231 => (some (bt231.1, bt231.2.1, bt231.2.2.1, (0 : Int)))) else (none)) else (none)) (R.1, R.2.1, R.2.2.1, 0) := by
              rw [m0]
              simp only [if_pos m1, if_pos m2]
              rw [show (⟨#[13, 10]⟩ : ByteArray) = B [13, 10] from rfl, B_app]
              exact Ev.bind2 hR (Ev.pure _)
            by_cases h : ((B (L nm ++ [58, 32])).size : Int) > 78
            · refine Ev.eq (f := fun k => postriderref07_Lay.l2 k (B (L nm ++ [58, 32])) (⟨#[]⟩ : ByteArray) (-1) ((nm.size + 3 : Nat) : Int)) (fun k => ?_) ?_
              · simp only [postriderref07_Lay.l1]
                rw [if_pos h]
              · refine Ev.eq (fun k => ?_) fin
                simp only [postriderref07_Lay.l2]
                rw [if_neg (by rw [hsz]; omega), if_pos (by omega)]
            · refine Ev.eq (fun k => ?_) fin
              simp only [postriderref07_Lay.l1]
              rw [if_neg h]
        · obtain ⟨a, t, e1, e2, e3, e4, e5⟩ := lay_both (L nm ++ (58 :: 32 :: L v)).length (L nm ++ (58 :: 32 :: L v)) [] (nm.size + 3) (Nat.le_refl _) (by omega) (by omega) (by simp; omega) (by simp; omega)
          refine ⟨a, t, by simpa using e1, by simp only [List.nil_append, List.length_nil] at e2; omega, ?_, fun R hR => ?_, fun R hR => ?_⟩
          · have : (L nm ++ (58 :: 32 :: L v)).take (nm.size + 3 - 1) = L nm ++ [58, 32] := by
              rw [show nm.size + 3 - 1 = (L nm).length + 2 by omega, List.take_length_add_append]; rfl
            rw [this] at e3
            exact e3
          · have hf := fold_v (s := B (L nm ++ (58 :: 32 :: L v))) (by rw [B_size]; omega) (least := nm.size + 3) (by omega) (.inl (by rw [B_size]; omega))
            rw [L_B] at hf
            exact Ev.bind2 hf (e4 R hR)
          · exact e5 R hR
      obtain ⟨a, t, e1, e2, e3, e4, e5⟩ := key
      have hfl := flat_le (a :: t)
      rw [e1] at hfl
      have hfdB : fdB (a :: t) = true := by
        obtain ⟨z, hz⟩ := e3
        have hne : a.takeWhile col = L nm := by
          rw [← hz, List.append_assoc, tw_all col (L nm) _ (by unfold fnL at c0; simp only [Bool.and_eq_true] at c0; exact List.all_eq_true.2 (fun c hc => fn_col c (List.all_eq_true.1 c0.2 c hc)))]
          simp [col]
        show (a.any (· == 58) && fnL (rdL (a.takeWhile col))) = true
        rw [hne, rd_name c0, c0, Bool.and_true, ← hz]
        simp
      have hrl : ∀ x ∈ a :: t, rgL x = true := flat_rg (by rw [e1]; exact hrg)
      have p1 := field_f (a := a) (t := t) (by omega)
      have p2 := ref_field_f (a := a) (v := t) hrl (by omega)
      rw [hfdB] at p2
      have p3 := fdP_eq hfdB
      have k1 := e4 _ p1
      have k2 := e5 _ p2
      refine ⟨mkS (fdV (a :: t)), 0, ?_, ?_, ?_⟩
      · unfold head_Lay.f
        refine Ev.bind2 hn ?_
        simp only [if_true]
        refine Ev.bind2 hb ?_
        refine Ev.eq (f := fun k => (head_fold.f k (B (L nm ++ (58 :: 32 :: L v))) ((nm.size + 3 : Nat) : Int)).bind fun t203 => head_Lay.l0 k ([] : List ByteArray) (B (L nm ++ (58 :: 32 :: L v))) t203) (fun k => ?_) ?_
        · simp only [head_Lay.j0, Bool.not_true, Bool.false_eq_true, if_false]
          rw [if_pos q1, if_pos q2, hc, ew]
        · rw [← p3]; exact k1
      · unfold postriderref07_Lay.f
        refine Ev.bind2 hn2 ?_
        simp only [if_true]
        refine ref_lay_l0 (by omega) (fun h => by rw [c1] at h; cases h) (fun _ => ?_) (L v) 0 rfl (by omega) rfl
        simp only [if_pos q1, if_pos q2]
        rw [hc, ew]
        exact k2
      · show (B (flat (a :: t))).size ≤ 10000
        rw [B_size]; omega
    · have c1' : rgL (L v) = false := by simpa using c1
      rw [c1'] at hb
      refine ⟨⟨⟨#[]⟩, ⟨#[]⟩, ⟨#[]⟩⟩, 5, ?_, ?_, by decide⟩
      · unfold head_Lay.f
        refine Ev.bind2 hn ?_
        simp only [if_true]
        refine Ev.bind2 hb ?_
        exact Ev.eq (f := fun _ => some _) (fun k => by simp only [head_Lay.j0, Bool.not_false, if_true]) (Ev.pure _)
      · unfold postriderref07_Lay.f
        refine Ev.bind2 hn2 ?_
        simp only [if_true]
        exact ref_lay_l0 (by omega) (fun _ => rfl) (fun h => absurd h c1) (L v) 0 rfl (by omega) rfl
  · have c0' : fnL (L nm) = false := by simpa using c0
    rw [c0'] at hn hn2
    refine ⟨⟨⟨#[]⟩, ⟨#[]⟩, ⟨#[]⟩⟩, 5, ?_, ?_, by decide⟩
    · unfold head_Lay.f
      refine Ev.bind2 hn ?_
      simp only [Bool.false_eq_true, if_false]
      exact Ev.eq (f := fun _ => some _) (fun k => by simp only [head_Lay.j0, if_true]) (Ev.pure _)
    · unfold postriderref07_Lay.f
      refine Ev.bind2 hn2 ?_
      simp only [Bool.false_eq_true, if_false]
      exact Ev.pure _
/-! ### A message with a field laid anew -/
theorem text_small {l : List S41} {b : ByteArray} {e : Bool} {m : Nat} (h : ∀ x ∈ l, x.f2.size ≤ m) (hb : b.size ≤ 600) : (headText l b e).length ≤ m * l.length + 602 := by
  have hp : ∀ (l : List S41), (∀ x ∈ l, x.f2.size ≤ m) → ((l.map (·.f2.data.toList)).flatten).length ≤ m * l.length := by
    intro l
    induction l with
    | nil => intro _; simp
    | cons a t ih =>
      intro hm
      have h4 := ih (fun x hx => hm x (by simp [hx]))
      have h5 := hm a (by simp)
      have h6 : a.f2.data.toList.length = a.f2.size := L_len _
      simp only [List.map_cons, List.flatten_cons, List.length_append, List.length_cons, Nat.mul_add, Nat.mul_one]
      omega
  have h7 := hp l h
  have h8 : b.data.toList.length = b.size := L_len _
  unfold headText
  rw [pre_all, List.length_append]
  split <;> simp only [List.length_nil, List.length_cons] <;> omega
/-- With other fields. -/
theorem both_with {l0 l : List S41} {b : ByteArray} {e : Bool} (h1 : l.length ≤ 30) (h2 : ∀ x ∈ l, x.f2.size ≤ 10000) (hb : b.size ≤ 600) :
    ∃ (r : List S41) (b2 : ByteArray) (e2 : Bool) (c : Int), r.length ≤ 30 ∧ Ev (fun k => head_Message_with.f l0 b e l) (r, b2, e2, c) ∧ Ev (fun k => postriderref07_with.f k (l0.map cvR) b e (l.map cvR)) (r.map cvR, b2, e2, c) := by
  have ht := text_small (e := e) h2 hb
  have hm : 10000 * l.length ≤ 300000 := by omega
  unfold head_Message_with.f postriderref07_with.f
  by_cases hc : ((B (headText l b e)).size : Int) > 8192
  · refine ⟨[], ⟨#[]⟩, false, 3, by simp, Ev.bindc (text_f (by omega) (by omega) (by omega)) ?_, Ev.bind2 (ref_text_f (by omega) (by omega) (by omega)) ?_⟩
    · simp only [if_pos hc]; exact Ev.pure _
    · simp only [if_pos hc]; exact Ev.pure _
  · refine ⟨l, b, e, 0, h1, Ev.bindc (text_f (by omega) (by omega) (by omega)) ?_, Ev.bind2 (ref_text_f (by omega) (by omega) (by omega)) ?_⟩
    · simp only [if_neg hc]; exact Ev.pure _
    · simp only [if_neg hc]; exact Ev.pure _
theorem both_ahead {l : List S41} {b : ByteArray} {e : Bool} {nm v : ByteArray} (h1 : l.length ≤ 20) (h2 : ∀ x ∈ l, x.f2.size ≤ 300) (hb : b.size ≤ 600) (hn : nm.size ≤ 1000) (hv : v.size ≤ 1000) :
    ∃ (r : List S41) (b2 : ByteArray) (e2 : Bool) (c : Int), r.length ≤ 30 ∧ Ev (fun k => head_Message_Ahead.f k l b e nm v) (r, b2, e2, c) ∧ Ev (fun k => postriderref07_Ahead.f k (l.map cvR) b e nm v) (r.map cvR, b2, e2, c) := by
  obtain ⟨x, c, p1, p2, p3⟩ := both_lay hn hv
  unfold head_Message_Ahead.f postriderref07_Ahead.f
  by_cases hc : c = 0
  · subst hc
    obtain ⟨r, b2, e2, c2, q0, q1, q2⟩ := both_with (l0 := l) (l := [x] ++ l) (b := b) (e := e) (by simp; omega) (fun y hy => by
      rcases List.mem_append.1 hy with hy | hy
      · rw [List.mem_singleton.1 hy]; exact p3
      · have := h2 y hy; omega) hb
    refine ⟨r, b2, e2, c2, q0, Ev.bind2 p1 ?_, Ev.bind2 p2 ?_⟩
    · simp only [if_true]
      refine Ev.bindc (a := [x]) rfl ?_
      have hl : ([x] : List S41).length + l.length < 2932031007402 := by simp; omega
      simp only [if_pos hl]
      exact Ev.bind2 q1 (Ev.pure _)
    · simp only [if_true, List.nil_append]
      have hl0 : ([] : List S60).length < 2932031007402 := by decide
      simp only [if_pos hl0]
      refine Ev.bindc (a := [cvR x]) rfl ?_
      have hl : ([cvR x] : List S60).length + (l.map cvR).length < 2932031007402 := by simp; omega
      simp only [if_pos hl]
      rw [List.map_append] at q2
      exact Ev.bind2 q2 (Ev.pure _)
  · refine ⟨[], ⟨#[]⟩, false, c, by simp, Ev.bind2 p1 ?_, Ev.bind2 p2 ?_⟩
    · simp only [if_neg hc]; exact Ev.pure _
    · simp only [if_neg hc]; exact Ev.pure _
theorem put_yes {α : Type} {f : Nat → Option α} {g : Nat → Option α} {r : α} (h : ∀ k, g (k + 1) = f k) (k : Ev f r) : Ev g r := Ev.step h k
theorem both_put {l : List S41} {b : ByteArray} {e : Bool} {i : Int} {v : ByteArray} (h1 : l.length ≤ 20) (h2 : ∀ x ∈ l, x.f0.size ≤ 300 ∧ x.f2.size ≤ 300) (hb : b.size ≤ 600) (hv : v.size ≤ 1000) :
    ∃ (r : List S41) (b2 : ByteArray) (e2 : Bool) (c : Int), r.length ≤ 30 ∧ Ev (fun k => head_Message_Put.f k l b e i v) (r, b2, e2, c) ∧ Ev (fun k => postriderref07_Put.f k (l.map cvR) b e i v) (r.map cvR, b2, e2, c) := by
  unfold head_Message_Put.f postriderref07_Put.f
  have no1 : Ev (fun k => head_Message_Put.j0 k i v true l b e) (([] : List S41), (⟨#[]⟩ : ByteArray), false, 1) := Ev.eq (f := fun _ => some _) (fun k => by simp only [head_Message_Put.j0, if_true]) (Ev.pure _)
  have no2 : Ev (fun k => postriderref07_Put.j0 k i v true (l.map cvR) b e) (([] : List S60), (⟨#[]⟩ : ByteArray), false, 1) := Ev.eq (f := fun _ => some _) (fun k => by simp only [postriderref07_Put.j0, if_true]) (Ev.pure _)
  by_cases hi0 : i < 0
  · simp only [if_pos hi0]
    exact ⟨[], _, _, _, by simp, no1, no2⟩
  · simp only [if_neg hi0]
    by_cases hi1 : i ≥ (l.length : Int)
    · have hi2 : i ≥ ((l.map cvR).length : Int) := by rw [List.length_map]; exact hi1
      rw [decide_eq_true hi1, decide_eq_true hi2]
      exact ⟨[], _, _, _, by simp, no1, no2⟩
    · have hi2 : ¬ i ≥ ((l.map cvR).length : Int) := by rw [List.length_map]; exact hi1
      rw [decide_eq_false hi1, decide_eq_false hi2]
      obtain ⟨j, rfl⟩ : ∃ j : Nat, i = (j : Int) := ⟨i.toNat, by omega⟩
      have hj : j < l.length := by omega
      have hj2 : j < (l.map cvR).length := by rw [List.length_map]; exact hj
      obtain ⟨n1, _⟩ := h2 _ (List.getElem_mem hj)
      obtain ⟨x, c, p1, p2, p3⟩ := both_lay (nm := (l[j]'hj).f0) (v := v) (by omega) hv
      have hr1 : rd_T41 l (j : Int) = l[j]'hj := rdT41 l j hj
      have hr2 : (rd_T60 (l.map cvR) (j : Int)).f0 = (l[j]'hj).f0 := by rw [rdT60 _ j hj2, List.getElem_map]; rfl
      have hcl : slices_Clone_head_Field_head_Field.f l = some l := by unfold slices_Clone_head_Field_head_Field.f; rw [if_pos (by omega)]
      by_cases hc : c = 0
      · subst hc
        obtain ⟨r, b2, e2, c2, q0, q1, q2⟩ := both_with (l0 := l) (l := l.set j x) (b := b) (e := e) (by simp; omega) (fun y hy => by
          rcases List.mem_or_eq_of_mem_set hy with hy | hy
          · have := (h2 y hy).2; omega
          · rw [hy]; exact p3) hb
        refine ⟨r, b2, e2, c2, q0, ?_, ?_⟩
        · refine Ev.eq (f := fun k => (head_Lay.f k (l[j]'hj).f0 v).bind fun bt290 => (if bt290.2.2.2 = 0 then ((slices_Clone_head_Field_head_Field.f l).bind fun t295 => (if (j : Int) < (t295.length : Int) then ((head_Message_with.f l b e (t295.set (j : Int).toNat (⟨bt290.1, bt290.2.1, bt290.2.2.1⟩ : S41))).bind fun bt299 => (some (bt299.1, bt299.2.1, bt299.2.2.1, bt299.2.2.2))) else (none))) else (some (([] : List (S41)), (⟨#[]⟩ : ByteArray), false, bt290.2.2.2)))) (fun k => ?_) (Ev.bind2 p1 ?_)
          · simp only [head_Message_Put.j0, Bool.false_eq_true, if_false]
            rw [if_pos (by omega), if_pos (by omega), hr1]
          · simp only [if_true]
            refine Ev.bindc hcl ?_
            have hlt : (j : Int) < (l.length : Int) := by omega
            simp only [if_pos hlt, Int.toNat_natCast]
            exact Ev.bind2 q1 (Ev.pure _)
        · refine Ev.eq (f := fun k => (postriderref07_Lay.f k (l[j]'hj).f0 v).bind fun bt308 => (if bt308.2.2.2 = 0 then (if ([] : List (S60)).length + (l.map cvR).length < 2932031007402 then ((some (([] : List (S60)) ++ l.map cvR : List (S60))).bind fun y313 => (if (j : Int) < (y313.length : Int) then ((postriderref07_with.f k (l.map cvR) b e (y313.set (j : Int).toNat (⟨bt308.1, bt308.2.1, bt308.2.2.1⟩ : S60))).bind fun bt317 => (some (bt317.1, bt317.2.1, bt317.2.2.1, bt317.2.2.2))) else (none))) else (none)) else (some (([] : List (S60)), (⟨#[]⟩ : ByteArray), false, bt308.2.2.2)))) (fun k => ?_) (Ev.bind2 p2 ?_)
          · simp only [postriderref07_Put.j0, Bool.false_eq_true, if_false]
            rw [if_pos (by omega), if_pos (by omega), hr2]
          · simp only [if_true, List.nil_append]
            have hlt0 : ([] : List S60).length + (l.map cvR).length < 2932031007402 := by simp; omega
            simp only [if_pos hlt0]
            refine Ev.bindc (a := l.map cvR) rfl ?_
            have hlt : (j : Int) < ((l.map cvR).length : Int) := by omega
            simp only [if_pos hlt, Int.toNat_natCast]
            have hset : (l.map cvR).set j (⟨x.f0, x.f1, x.f2⟩ : S60) = (l.set j x).map cvR := by rw [List.map_set]; rfl
            rw [hset]
            exact Ev.bind2 q2 (Ev.pure _)
      · refine ⟨[], ⟨#[]⟩, false, c, by simp, ?_, ?_⟩
        · refine Ev.eq (f := fun k => (head_Lay.f k (l[j]'hj).f0 v).bind fun bt290 => (if bt290.2.2.2 = 0 then ((slices_Clone_head_Field_head_Field.f l).bind fun t295 => (if (j : Int) < (t295.length : Int) then ((head_Message_with.f l b e (t295.set (j : Int).toNat (⟨bt290.1, bt290.2.1, bt290.2.2.1⟩ : S41))).bind fun bt299 => (some (bt299.1, bt299.2.1, bt299.2.2.1, bt299.2.2.2))) else (none))) else (some (([] : List (S41)), (⟨#[]⟩ : ByteArray), false, bt290.2.2.2)))) (fun k => ?_) (Ev.bind2 p1 ?_)
          · simp only [head_Message_Put.j0, Bool.false_eq_true, if_false]
            rw [if_pos (by omega), if_pos (by omega), hr1]
          · simp only [if_neg hc]; exact Ev.pure _
        · refine Ev.eq (f := fun k => (postriderref07_Lay.f k (l[j]'hj).f0 v).bind fun bt308 => (if bt308.2.2.2 = 0 then (if ([] : List (S60)).length + (l.map cvR).length < 2932031007402 then ((some (([] : List (S60)) ++ l.map cvR : List (S60))).bind fun y313 => (if (j : Int) < (y313.length : Int) then ((postriderref07_with.f k (l.map cvR) b e (y313.set (j : Int).toNat (⟨bt308.1, bt308.2.1, bt308.2.2.1⟩ : S60))).bind fun bt317 => (some (bt317.1, bt317.2.1, bt317.2.2.1, bt317.2.2.2))) else (none))) else (none)) else (some (([] : List (S60)), (⟨#[]⟩ : ByteArray), false, bt308.2.2.2)))) (fun k => ?_) (Ev.bind2 p2 ?_)
          · simp only [postriderref07_Put.j0, Bool.false_eq_true, if_false]
            rw [if_pos (by omega), if_pos (by omega), hr2]
          · simp only [if_neg hc]; exact Ev.pure _
end Go.Proofs.YtdciiahlakgikaaDoor.S
