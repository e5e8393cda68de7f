/- A field laid anew: where it is folded, and what its lines are. -/
import Derived.Test.YtdciiahlakgikaaDoorHP
import Derived.Test.YtdciiahlakgikaaDoorQx5
namespace Go.Proofs.YtdciiahlakgikaaDoor.S
open Go.RowKit Go.Proofs.YtdciiahlakgikaaDoor.Q Go.Proofs.YtdciiahlakgikaaDoorW.PrintWords Go.Proofs.YtdciiahlakgikaaDoorW.PrintLast Go.Proofs.YtdciiahlakgikaaDoorW.PrintMore
set_option linter.unusedVariables false
set_option linter.unusedSimpArgs false
/-- A place behind a comma where a blank stands. -/
def cand (l : List UInt8) (i : Nat) : Prop := 1 ≤ i ∧ l[i]? = some 32 ∧ l[i - 1]? = some 44
def FoldAt (l : List UInt8) (least : Nat) (r : Int) : Prop :=
  (r = -1 ∧ (l.length ≤ 78 ∨ ∀ i, least ≤ i → ¬ cand l i)) ∨ ∃ j : Nat, r = (j : Int) ∧ least ≤ j ∧ j < l.length ∧ cand l j ∧ (j ≤ 78 ∨ ∀ i, least ≤ i → i < j → ¬ cand l i)
def BestOk (l : List UInt8) (least i : Nat) (b : Int) : Prop :=
  (b = -1 ∧ ∀ q, least ≤ q → q < i → ¬ cand l q) ∨ ∃ j : Nat, b = (j : Int) ∧ least ≤ j ∧ j < l.length ∧ j ≤ 78 ∧ cand l j
theorem cand_lt {l : List UInt8} {i : Nat} (h : cand l i) : i < l.length := (List.getElem?_eq_some_iff.1 h.2.1).1
theorem bt_is {s : ByteArray} {n : Nat} (h : n < s.size) (d : UInt8) : bt s (n : Int) = (d.toNat : Int) ↔ (L s)[n]? = some d := by
  have hn : n < (L s).length := by rw [L_len]; exact h
  have hd := List.drop_eq_getElem_cons hn
  rw [bt_of hd, c_eq, List.getElem?_eq_getElem hn]
  simp
theorem best_next {l : List UInt8} {least i : Nat} {b : Int} (h : BestOk l least i b) (hc : ¬ cand l i ∨ 0 ≤ b) : BestOk l least (i + 1) b := by
  rcases h with ⟨rfl, h⟩ | h
  · refine .inl ⟨rfl, fun q h1 h2 => ?_⟩
    by_cases hq : q = i
    · subst hq
      rcases hc with hc | hc
      · exact hc
      · omega
    · exact h q h1 (by omega)
  · exact .inr h
theorem fold_l0 {s : ByteArray} (hs : s.size ≤ 40000) {least : Nat} (hl : 1 ≤ least) : ∀ (d i : Nat) (b : Int), s.size ≤ i + d → least ≤ i → BestOk (L s) least i b →
    ∃ r, Ev (fun k => head_fold.l0 k s b (i : Int)) r ∧ FoldAt (L s) least r := by
  have hL := L_len s
  have hend : ∀ (i : Nat) (b : Int), s.size ≤ i → BestOk (L s) least i b → ∃ r, Ev (fun k => head_fold.l0 k s b (i : Int)) r ∧ FoldAt (L s) least r := by
    intro i b hi hb
    refine ⟨b, Ev.eq (f := fun _ => some b) (fun k => ?_) (Ev.pure _), ?_⟩
    · simp only [head_fold.l0]
      rw [if_neg (by omega)]
    · rcases hb with ⟨rfl, h⟩ | ⟨j, rfl, h1, h2, h3, h4⟩
      · exact .inl ⟨rfl, .inr fun q h1 hc => h q h1 (by have := cand_lt hc; omega) hc⟩
      · exact .inr ⟨j, rfl, h1, h2, h4, .inl h3⟩
  intro d
  induction d with
  | zero => intro i b h hle hb; exact hend i b (by omega) hb
  | succ d ih =>
    intro i b h hle hb
    by_cases hi : i < s.size
    · have ew : wrap64 ((i : Int) + 1) = ((i + 1 : Nat) : Int) := w1 hi (by omega)
      have skip : (¬ cand (L s) i ∨ 0 ≤ b) → ∃ r, Ev (fun k => head_fold.j1 k s b (i : Int) true) r ∧ FoldAt (L s) least r := by
        intro hc
        obtain ⟨r, h1, h2⟩ := ih (i + 1) b (by omega) (by omega) (best_next hb hc)
        refine ⟨r, Ev.eq (fun k => ?_) h1, h2⟩
        simp only [head_fold.j1]
        rw [if_pos trivial, ew]
      have e32 : bt s (i : Int) = 32 ↔ (L s)[i]? = some 32 := bt_is hi 32
      by_cases c1 : bt s (i : Int) = 32
      · have ep : wrap64 ((i : Int) - 1) = ((i - 1 : Nat) : Int) := by rw [wk (by omega) (by omega)]; omega
        have e44 : bt s ((i - 1 : Nat) : Int) = 44 ↔ (L s)[i - 1]? = some 44 := bt_is (by omega) 44
        by_cases c2 : bt s ((i - 1 : Nat) : Int) = 44
        · have hc : cand (L s) i := ⟨by omega, e32.1 c1, e44.1 c2⟩
          have take : i ≤ 78 → ∃ r, Ev (fun k => head_fold.j1 k s b (i : Int) false) r ∧ FoldAt (L s) least r := by
            intro h78
            obtain ⟨r, h1, h2⟩ := ih (i + 1) (i : Int) (by omega) (by omega) (.inr ⟨i, rfl, hle, by omega, h78, hc⟩)
            refine ⟨r, Ev.eq (fun k => ?_) h1, h2⟩
            simp only [head_fold.j1]
            rw [if_neg (by simp), if_neg (by omega), ew]
          have goal : ∃ r, Ev (fun k => if b ≥ 0 then head_fold.j1 k s b (i : Int) (decide ((i : Int) > 78)) else head_fold.j1 k s b (i : Int) false) r ∧ FoldAt (L s) least r := by
            by_cases hb0 : b ≥ 0
            · simp only [if_pos hb0]
              by_cases h78 : (i : Int) > 78
              · simp only [decide_eq_true h78]
                exact skip (.inr hb0)
              · simp only [decide_eq_false h78]
                exact take (by omega)
            · simp only [if_neg hb0]
              by_cases h78 : (i : Int) > 78
              · refine ⟨(i : Int), Ev.eq (f := fun _ => some (i : Int)) (fun k => ?_) (Ev.pure _), .inr ⟨i, rfl, hle, by omega, hc, .inr ?_⟩⟩
                · simp only [head_fold.j1]
                  rw [if_neg (by simp), if_pos h78]
                · rcases hb with ⟨_, h⟩ | ⟨j, rfl, _⟩
                  · exact h
                  · omega
              · exact take (by omega)
          obtain ⟨r, h1, h2⟩ := goal
          refine ⟨r, Ev.eq (fun k => ?_) h1, h2⟩
          simp only [head_fold.l0]
          rw [if_pos (by omega), if_pos (by omega), if_pos c1, ep, if_pos (by omega), if_pos (by omega), if_pos c2]
        · obtain ⟨r, h1, h2⟩ := skip (.inl fun hc => c2 (e44.2 hc.2.2))
          refine ⟨r, Ev.eq (fun k => ?_) h1, h2⟩
          simp only [head_fold.l0]
          rw [if_pos (by omega), if_pos (by omega), if_pos c1, ep, if_pos (by omega), if_pos (by omega), if_neg c2]
      · obtain ⟨r, h1, h2⟩ := skip (.inl fun hc => c1 (e32.2 hc.2.1))
        refine ⟨r, Ev.eq (fun k => ?_) h1, h2⟩
        simp only [head_fold.l0]
        rw [if_pos (by omega), if_pos (by omega), if_neg c1]
    · exact hend i b (by omega) hb
theorem fold_f {s : ByteArray} (hs : s.size ≤ 40000) {least : Nat} (hl : 1 ≤ least) : ∃ r, Ev (fun k => head_fold.f k s (least : Int)) r ∧ FoldAt (L s) least r := by
  have hL := L_len s
  unfold head_fold.f
  by_cases h : (s.size : Int) ≤ 78
  · simp only [if_pos h]
    exact ⟨-1, Ev.pure _, .inl ⟨rfl, .inl (by omega)⟩⟩
  · simp only [if_neg h]
    exact fold_l0 hs hl s.size least (-1) (by omega) (Nat.le_refl _) (.inl ⟨rfl, fun q h1 h2 => by omega⟩)
/-- What holds of each line of a laid field. -/
def LnOk (k : Nat) (x : List UInt8) : Prop := (0 < k → x.head? = some 32) ∧ (78 < x.length → ∀ i, (if k = 0 then 5 else 2) ≤ i → ¬ cand x i)
def LnsOk (ls : List (List UInt8)) : Prop := ∀ k x, ls[k]? = some x → LnOk k x ∧ (k + 1 < ls.length → x.getLast? = some 44)
def AccOk (ls : List (List UInt8)) : Prop := ∀ k x, ls[k]? = some x → LnOk k x ∧ x.getLast? = some 44
theorem cand_take {c : List UInt8} {j i : Nat} (h : cand (c.take j) i) : i < j ∧ cand c i := by
  obtain ⟨h0, h1, h2⟩ := h
  rw [List.getElem?_take] at h1 h2
  split at h1
  · rename_i hi
    rw [if_pos (by omega)] at h2
    exact ⟨hi, h0, h1, h2⟩
  · cases h1
theorem cut_ok {acc : List (List UInt8)} {c : List UInt8} {j : Nat} (ha : AccOk acc) (hh : acc ≠ [] → c.head? = some 32) (h1 : (if acc = [] then 5 else 2) ≤ j) (h2 : j < c.length) (h3 : cand c j)
    (h4 : j ≤ 78 ∨ ∀ i, (if acc = [] then 5 else 2) ≤ i → i < j → ¬ cand c i) : AccOk (acc ++ [c.take j]) ∧ (c.drop j).head? = some 32 := by
  have hj : 2 ≤ j := by split at h1 <;> omega
  have e0 : (if acc = [] then 5 else 2) = (if acc.length = 0 then 5 else 2) := by cases acc <;> simp
  constructor
  · intro k x hk
    rcases Nat.lt_or_ge k acc.length with hl | hl
    · rw [List.getElem?_append_left hl] at hk
      exact ha k x hk
    · rw [List.getElem?_append_right hl] at hk
      obtain ⟨hk1, hk2⟩ := List.getElem?_eq_some_iff.1 hk
      simp only [List.length_singleton] at hk1
      obtain rfl : k = acc.length := by omega
      simp at hk2
      subst hk2
      refine ⟨⟨fun hp => ?_, fun hlen i hi hc => ?_⟩, ?_⟩
      · have : acc ≠ [] := fun e => by rw [e] at hp; simp at hp
        have h := hh this
        cases c with
        | nil => cases h
        | cons a t =>
          obtain ⟨m, rfl⟩ : ∃ m, j = m + 1 := ⟨j - 1, by omega⟩
          simpa using h
      · obtain ⟨h5, h6⟩ := cand_take hc
        rw [List.length_take] at hlen
        rcases h4 with h4 | h4
        · omega
        · exact h4 i (by rw [e0]; exact hi) h5 h6
      · rw [List.getLast?_eq_getElem?, List.length_take, Nat.min_eq_left (by omega), List.getElem?_take, if_pos (by omega)]
        exact h3.2.2
  · rw [List.head?_drop]
    exact h3.2.1
theorem lay_l0 : ∀ (N : Nat) (c : List UInt8) (acc : List (List UInt8)) (r : Int), c.length ≤ N → AccOk acc → (acc ≠ [] → c.head? = some 32) → FoldAt c (if acc = [] then 5 else 2) r → acc.length + c.length ≤ 9000 →
    ∃ ls, ls ≠ [] ∧ ls.flatten = acc.flatten ++ c ∧ LnsOk ls ∧ ls.length ≤ acc.length + c.length + 1 ∧ ∀ R, Ev (fun k => head_field.f k (ls.map B)) R → Ev (fun k => head_Lay.l0 k (acc.map B) (B c) r) (R.1, R.2.1, R.2.2.1, 0) := by
  intro N
  induction N with
  | zero =>
    intro c acc r hN ha hh hf hb
    obtain rfl : c = [] := List.eq_nil_of_length_eq_zero (by omega)
    rcases hf with ⟨rfl, h⟩ | ⟨j, _, _, h, _⟩
    · refine ⟨acc ++ [[]], by simp, by simp, fun k x hk => ?_, by simp, fun R hR => ?_⟩
      · rcases Nat.lt_or_ge k acc.length with hl | hl
        · rw [List.getElem?_append_left hl] at hk
          exact ⟨(ha k x hk).1, fun _ => (ha k x hk).2⟩
        · rw [List.getElem?_append_right hl] at hk
          obtain ⟨hk1, hk2⟩ := List.getElem?_eq_some_iff.1 hk
          simp only [List.length_singleton] at hk1
          obtain rfl : k = acc.length := by omega
          simp at hk2
          subst hk2
          refine ⟨⟨fun hp => hh fun e => by rw [e] at hp; simp at hp, fun h => by simp at h⟩, fun h => ?_⟩
          rw [List.length_append, List.length_singleton] at h
          omega
      · rw [List.map_append] at hR
        refine Ev.eq (fun k => ?_) (Ev.bind2 (f := fun _ bt => some (bt.1, bt.2.1, bt.2.2.1, 0)) hR (Ev.pure _))
        simp only [head_Lay.l0]
        rw [if_neg (by omega), if_pos (by rw [List.length_map]; omega)]
        rfl
    · simp at h
  | succ N ih =>
    intro c acc r hN ha hh hf hb
    rcases hf with ⟨rfl, h⟩ | ⟨j, rfl, h1, h2, h3, h4⟩
    · refine ⟨acc ++ [c], by simp, by simp, fun k x hk => ?_, by simp, fun R hR => ?_⟩
      · rcases Nat.lt_or_ge k acc.length with hl | hl
        · rw [List.getElem?_append_left hl] at hk
          exact ⟨(ha k x hk).1, fun _ => (ha k x hk).2⟩
        · rw [List.getElem?_append_right hl] at hk
          obtain ⟨hk1, hk2⟩ := List.getElem?_eq_some_iff.1 hk
          simp only [List.length_singleton] at hk1
          obtain rfl : k = acc.length := by omega
          simp at hk2
          subst hk2
          refine ⟨⟨fun hp => hh fun e => by rw [e] at hp; simp at hp, fun hlen i hi => ?_⟩, fun h => ?_⟩
          · rcases h with h | h
            · omega
            · exact h i (by rw [show (if acc = [] then 5 else 2) = (if acc.length = 0 then 5 else 2) by cases acc <;> simp]; exact hi)
          · rw [List.length_append, List.length_singleton] at h
            omega
      · rw [List.map_append] at hR
        refine Ev.eq (fun k => ?_) (Ev.bind2 (f := fun _ bt => some (bt.1, bt.2.1, bt.2.2.1, 0)) hR (Ev.pure _))
        simp only [head_Lay.l0]
        rw [if_neg (by omega), if_pos (by rw [List.length_map]; omega)]
        rfl
    · obtain ⟨g1, g2⟩ := cut_ok ha hh h1 h2 h3 h4
      have hj : 2 ≤ j := by split at h1 <;> omega
      have ed : (B c).extract (j : Int).toNat (B c).size = B (c.drop j) := L_inj (by rw [Int.toNat_natCast, L_ext_end, L_B, L_B])
      have et : (B c).extract 0 (j : Int).toNat = B (c.take j) := by rw [Int.toNat_natCast, ext_B, L_B, List.drop_zero, Nat.sub_zero]
      obtain ⟨r2, hr1, hr2⟩ := fold_f (s := B (c.drop j)) (by rw [B_size, List.length_drop]; omega) (least := 2) (by omega)
      rw [L_B] at hr2
      obtain ⟨ls, hl1, hl2, hl3, hl4, hl5⟩ := ih (c.drop j) (acc ++ [c.take j]) r2 (by rw [List.length_drop]; omega) g1 (fun _ => g2) (by rw [if_neg (by simp)]; exact hr2) (by rw [List.length_append, List.length_singleton, List.length_drop]; omega)
      refine ⟨ls, hl1, ?_, hl3, ?_, fun R hR => ?_⟩
      · rw [hl2, List.flatten_append]; simp
      · rw [List.length_append, List.length_singleton, List.length_drop] at hl4; omega
      · have h5 := hl5 R hR
        refine Ev.eq (fun k => ?_) (Ev.bind2 hr1 h5)
        simp only [head_Lay.l0]
        rw [if_pos (by omega), if_pos (by omega), if_pos (by rw [B_size]; omega), if_pos (by rw [List.length_map]; omega), ed, et, List.map_append]
        rfl
end Go.Proofs.YtdciiahlakgikaaDoor.S
