/- A field laid anew, by the program and by the document. -/
import Derived.Test.YtdciiahlakgikaaDoorHAb
import Derived.Test.YtdciiahlakgikaaDoorQx5
namespace Go.Proofs.YtdciiahlakgikaaDoor.S
open Go.RowKit Go.Proofs.YtdciiahlakgikaaDoor.Q Go.Proofs.YtdciiahlakgikaaDoorW.PrintWords Go.Proofs.YtdciiahlakgikaaDoorW.PrintLast Go.Proofs.YtdciiahlakgikaaDoorW.PrintMore
set_option linter.unusedVariables false
set_option linter.unusedSimpArgs false
/-- A place behind a comma where a blank stands. -/
def cnd (l : List UInt8) (i : Nat) : Bool := l[i]? == some 32 && l[i - 1]? == some 44
/-- The place where a line is folded, one more place looked at. -/
def stp (l : List UInt8) (b : Int) (i : Nat) : Int := if cnd l i = true then (if i ≤ 78 then (i : Int) else if b < 0 then (i : Int) else b) else b
def fld (l : List UInt8) : Nat → Nat → Int → Int
  | 0, _, b => b
  | d + 1, i, b => fld l d (i + 1) (stp l b i)
def fldV (l : List UInt8) (least : Nat) : Int := if l.length ≤ 78 then -1 else fld l (l.length - least) least (-1)
theorem fld_bd (l : List UInt8) : ∀ (d i : Nat) (b : Int) (m : Nat), i + d = l.length → (b = -1 ∨ ((m : Int) ≤ b ∧ b < i)) → m ≤ i → fld l d i b = -1 ∨ ((m : Int) ≤ fld l d i b ∧ fld l d i b < l.length) := by
  intro d
  induction d with
  | zero => intro i b m h hb hm; unfold fld; omega
  | succ d ih =>
    intro i b m h hb hm
    unfold fld
    refine ih (i + 1) _ m (by omega) ?_ (by omega)
    unfold stp
    split
    · split
      · right; omega
      · split
        · right; omega
        · omega
    · omega
theorem fldV_bd (l : List UInt8) (least : Nat) (hl : least ≤ l.length) : fldV l least = -1 ∨ ((least : Int) ≤ fldV l least ∧ fldV l least < l.length) := by
  unfold fldV
  split
  · exact .inl rfl
  · exact fld_bd l _ _ _ _ (by omega) (.inl rfl) (Nat.le_refl _)
/-- Once a place behind the 78th is taken, it stays. -/
theorem fld_stay (l : List UInt8) : ∀ (d i : Nat) (b : Int), 78 < i → 0 ≤ b → fld l d i b = b := by
  intro d
  induction d with
  | zero => intro i b _ _; rfl
  | succ d ih =>
    intro i b h hb
    unfold fld
    have : stp l b i = b := by
      unfold stp
      split
      · rw [if_neg (by omega), if_neg (by omega)]
      · rfl
    rw [this]
    exact ih (i + 1) b (by omega) hb
theorem btl {s : ByteArray} {n : Nat} (h : n < s.size) (d : UInt8) : bt s (n : Int) = (d.toNat : Int) ↔ (L s)[n]? = some d := by
  have hn : n < (L s).length := by rw [L_len]; exact h
  have hd := List.drop_eq_getElem_cons hn
  rw [bt_of hd, c_eq, List.getElem?_eq_getElem hn]
  simp
theorem cnd_of {s : ByteArray} {i : Nat} (h : i < s.size) (h0 : 1 ≤ i) : cnd (L s) i = true ↔ (bt s (i : Int) = 32 ∧ bt s ((i - 1 : Nat) : Int) = 44) := by
  unfold cnd
  have e1 : bt s (i : Int) = 32 ↔ (L s)[i]? = some 32 := btl h 32
  have e2 : bt s ((i - 1 : Nat) : Int) = 44 ↔ (L s)[i - 1]? = some 44 := btl (by omega) 44
  rw [e1, e2, Bool.and_eq_true, beq_iff_eq, beq_iff_eq]
theorem fold_v0 {s : ByteArray} (hs : s.size ≤ 40000) : ∀ (d i : Nat) (b : Int), i + d = s.size → 1 ≤ i → Ev (fun k => head_fold.l0 k s b (i : Int)) (fld (L s) d i b) := by
  intro d
  induction d with
  | zero =>
    intro i b h h1
    refine Ev.eq (f := fun _ => some b) (fun k => ?_) (Ev.pure _)
    simp only [head_fold.l0]
    rw [if_neg (by omega)]
  | succ d ih =>
    intro i b h h1
    have hi : i < s.size := by omega
    have ew : wrap64 ((i : Int) + 1) = ((i + 1 : Nat) : Int) := w1 hi (by omega)
    have ep : wrap64 ((i : Int) - 1) = ((i - 1 : Nat) : Int) := by rw [wk (by omega) (by omega)]; omega
    have hc := cnd_of hi h1
    unfold fld
    have skip : Ev (fun k => head_fold.j1 k s b (i : Int) true) (fld (L s) d (i + 1) b) := by
      refine Ev.eq (fun k => ?_) (ih (i + 1) b (by omega) (by omega))
      simp only [head_fold.j1]
      rw [if_pos trivial, ew]
    by_cases c1 : bt s (i : Int) = 32
    · by_cases c2 : bt s ((i - 1 : Nat) : Int) = 44
      · have hcc := hc.2 ⟨c1, c2⟩
        have go1 : ∀ x, stp (L s) b i = x → Ev (fun k => if b ≥ 0 then head_fold.j1 k s b (i : Int) (decide ((i : Int) > 78)) else head_fold.j1 k s b (i : Int) false) (fld (L s) d (i + 1) x) := by
          intro x hx
          unfold stp at hx
          rw [if_pos hcc] at hx
          by_cases h78 : i ≤ 78
          · rw [if_pos h78] at hx
            subst hx
            have hd : decide ((i : Int) > 78) = false := decide_eq_false (by omega)
            have take : Ev (fun k => head_fold.j1 k s b (i : Int) false) (fld (L s) d (i + 1) (i : Int)) := by
              refine Ev.eq (fun k => ?_) (ih (i + 1) (i : Int) (by omega) (by omega))
              simp only [head_fold.j1]
              rw [if_neg (by simp), if_neg (by omega), ew]
            by_cases hb0 : b ≥ 0
            · simp only [if_pos hb0, hd]; exact take
            · simp only [if_neg hb0]; exact take
          · rw [if_neg h78] at hx
            have hd : decide ((i : Int) > 78) = true := decide_eq_true (by omega)
            by_cases hb0 : b ≥ 0
            · rw [if_neg (by omega)] at hx
              subst hx
              simp only [if_pos hb0, hd]; exact skip
            · rw [if_pos (by omega)] at hx
              subst hx
              simp only [if_neg hb0]
              rw [fld_stay _ _ _ _ (by omega) (by omega)]
              refine Ev.eq (f := fun _ => some (i : Int)) (fun k => ?_) (Ev.pure _)
              simp only [head_fold.j1]
              rw [if_neg (by simp), if_pos (by omega)]
        refine Ev.eq (fun k => ?_) (go1 _ rfl)
        simp only [head_fold.l0]
        rw [if_pos (by omega), if_pos (by omega), if_pos c1, ep, if_pos (by omega), if_pos (by omega), if_pos c2]
      · have hst : stp (L s) b i = b := by unfold stp; rw [if_neg (fun h => c2 (hc.1 h).2)]
        rw [hst]
        refine Ev.eq (fun k => ?_) skip
        simp only [head_fold.l0]
        rw [if_pos (by omega), if_pos (by omega), if_pos c1, ep, if_pos (by omega), if_pos (by omega), if_neg c2]
    · have hst : stp (L s) b i = b := by unfold stp; rw [if_neg (fun h => c1 (hc.1 h).1)]
      rw [hst]
      refine Ev.eq (fun k => ?_) skip
      simp only [head_fold.l0]
      rw [if_pos (by omega), if_pos (by omega), if_neg c1]
theorem fold_v {s : ByteArray} (hs : s.size ≤ 40000) {least : Nat} (h1 : 1 ≤ least) (h2 : least ≤ s.size ∨ s.size ≤ 78) : Ev (fun k => head_fold.f k s (least : Int)) (fldV (L s) least) := by
  have hL := L_len s
  unfold head_fold.f fldV
  by_cases h : s.size ≤ 78
  · have h' : (s.size : Int) ≤ 78 := by omega
    simp only [if_pos h']
    rw [if_pos (by omega)]
    exact Ev.pure _
  · have h' : ¬ (s.size : Int) ≤ 78 := by omega
    simp only [if_neg h']
    rw [if_neg (by omega), hL]
    exact fold_v0 hs (s.size - least) least (-1) (by omega) h1
theorem flat_le (ls : List (List UInt8)) : (flat ls).length = ls.flatten.length + 2 * ls.length := by
  induction ls with
  | nil => rfl
  | cons a t ih => rw [flat_cons, List.length_append, List.length_cons, List.length_cons, ih, List.flatten_cons, List.length_append, List.length_cons]; omega
theorem flat_rg {ls : List (List UInt8)} (h : rgL ls.flatten = true) : ∀ x ∈ ls, rgL x = true := by
  intro x hx
  unfold rgL at h ⊢
  refine List.all_eq_true.2 (fun c hc => List.all_eq_true.1 h c (List.mem_flatten.2 ⟨x, hx, hc⟩))
theorem fn_rgC (c : UInt8) : fnC c = true → rgC c = true := byte_all (p := fun c => fnC c = true → rgC c = true) (by decide +kernel) c
theorem fn_blC (c : UInt8) : fnC c = true → blC c = false := byte_all (p := fun c => fnC c = true → blC c = false) (by decide +kernel) c
theorem fn_col (c : UInt8) : fnC c = true → col c = true := byte_all (p := fun c => fnC c = true → col c = true) (by decide +kernel) c
theorem rd_name {n : List UInt8} (h : fnL n = true) : rdL n = n := by
  unfold fnL at h
  simp only [Bool.and_eq_true] at h
  cases hr : n.reverse with
  | nil => unfold rdL; rw [hr]; simp at hr; rw [hr]; rfl
  | cons c t =>
    have hc : c ∈ n := by rw [← List.mem_reverse, hr]; simp
    have := fn_blC c (List.all_eq_true.1 h.2 c hc)
    unfold rdL
    rw [hr, List.dropWhile_cons, if_neg (by rw [this]; simp), ← hr, List.reverse_reverse]
end Go.Proofs.YtdciiahlakgikaaDoor.S
