/- Plain facts on texts that are split, joined, and told as lines. -/
import Derived.Test.YtacjnapgdikhbaaGreatDoorS
import Derived.Lib.Split
import Derived.Lib.SplitLaws
import Derived.Lib.Join
namespace Go.Proofs.YtacjnapgdikhbaaGreatDoor.S
set_option linter.unusedVariables false
theorem ix_hit {c : UInt8} {t a b : List UInt8} (h : c ∉ a) : Lib.index (a ++ ((c :: t) ++ b)) (c :: t) = (a.length : Int) := by
  refine Lib.index_first (by simp) ?_ (fun j hj => ?_)
  · unfold Lib.occAt
    rw [List.drop_left]
    exact List.isPrefixOf_iff_prefix.2 ⟨b, rfl⟩
  · rw [Bool.eq_false_iff]
    intro ho
    have := Lib.occAt_head rfl ho
    rw [List.getElem?_append_left hj, List.getElem?_eq_getElem hj] at this
    exact h (by rw [← Option.some.inj this]; exact List.getElem_mem hj)
theorem ix_miss {c : UInt8} {t a : List UInt8} (h : c ∉ a) : Lib.index a (c :: t) = -1 := by
  refine Lib.index_none (fun j hj => ?_)
  rw [Bool.eq_false_iff]
  intro ho
  have := Lib.occAt_head rfl ho
  exact h (List.mem_of_getElem? this)
theorem split_miss {s sep : List UInt8} (h : Lib.index s sep = -1) : Lib.split s sep = [s] := by
  unfold Lib.split; rw [Lib.count_miss h]; rfl
theorem split_hit {s sep : List UInt8} {i : Nat} (hs : sep ≠ []) (h : Lib.index s sep = i) : Lib.split s sep = s.take i :: Lib.split (s.drop (i + sep.length)) sep := by
  have hm : ¬ (Lib.index s sep == -1) = true := fun e => by have := beq_iff_eq.1 e; omega
  have e : (Lib.index s sep).toNat = i := by omega
  unfold Lib.split
  rw [Lib.count_hit hs h, Nat.add_comm 1, Lib.splitK, if_neg hm, e]
  rfl
theorem join_cons2 (x y : List UInt8) (r : List (List UInt8)) (sep : List UInt8) : Lib.join (x :: y :: r) sep = x ++ (sep ++ Lib.join (y :: r) sep) := by
  rw [Lib.join_cons, Lib.join_cons]
  simp [Lib.joinTail]
theorem split_ne (s sep : List UInt8) : Lib.split s sep ≠ [] := by
  unfold Lib.split
  cases Lib.count s sep with
  | zero => simp [Lib.splitK]
  | succ n => unfold Lib.splitK; split <;> simp
theorem split_join {sep : List UInt8} (hs : sep ≠ []) : ∀ (N : Nat) (s : List UInt8), s.length ≤ N → Lib.join (Lib.split s sep) sep = s := by
  intro N
  induction N with
  | zero =>
    intro s h
    obtain rfl : s = [] := List.eq_nil_of_length_eq_zero (by omega)
    have : Lib.index [] sep = -1 := by
      cases sep with
      | nil => exact absurd rfl hs
      | cons a t => exact ix_miss (by simp)
    rw [split_miss this, Lib.join_one]
  | succ N ih =>
    intro s h
    rcases Lib.index_spec s sep with ⟨h1, _⟩ | ⟨i, h1, h2, h3, _⟩
    · rw [split_miss h1, Lib.join_one]
    · have hl : 0 < sep.length := List.length_pos_iff.2 hs
      have hr := Lib.index_room s sep (by omega)
      rw [split_hit hs h1]
      obtain ⟨y, r, hyr⟩ : ∃ y r, Lib.split (s.drop (i + sep.length)) sep = y :: r := by
        cases hh : Lib.split (s.drop (i + sep.length)) sep with
        | nil => exact absurd hh (split_ne _ _)
        | cons y r => exact ⟨y, r, rfl⟩
      have hj := ih (s.drop (i + sep.length)) (by rw [List.length_drop]; omega)
      rw [hyr] at hj ⊢
      rw [join_cons2, hj]
      unfold Lib.occAt at h3
      obtain ⟨b, hb⟩ := List.isPrefixOf_iff_prefix.1 h3
      rw [← List.drop_drop, ← hb, List.drop_left, hb, List.take_append_drop]
theorem split_parts {c : UInt8} {t : List UInt8} : ∀ (ls : List (List UInt8)), ls ≠ [] → (∀ a ∈ ls, c ∉ a) → Lib.split (Lib.join ls (c :: t)) (c :: t) = ls
  | [], h, _ => absurd rfl h
  | [x], _, h => by rw [Lib.join_one, split_miss (ix_miss (h x (by simp)))]
  | x :: y :: r, _, h => by
    rw [join_cons2, split_hit (by simp) (ix_hit (h x (by simp))), List.take_left, ← List.drop_drop, List.drop_left, List.drop_left, split_parts (y :: r) (by simp) (fun a ha => h a (List.mem_cons_of_mem _ ha))]
def rgC (c : UInt8) : Bool := c == 9 || (decide (32 ≤ c.toNat) && decide (c.toNat ≠ 127))
theorem rg13 : rgC 13 = false := by decide
def rgL (l : List UInt8) : Bool := l.all rgC
theorem rg_no13 {a : List UInt8} (h : rgL a = true) : (13 : UInt8) ∉ a := fun hm => by
  have := List.all_eq_true.1 h _ hm
  rw [rg13] at this; cases this
def flat (ls : List (List UInt8)) : List UInt8 := (ls.map (· ++ [13, 10])).flatten
theorem flat_nil : flat [] = [] := rfl
theorem flat_cons (a : List UInt8) (ls : List (List UInt8)) : flat (a :: ls) = a ++ (13 :: 10 :: flat ls) := by simp [flat]
theorem flat_app (a b : List (List UInt8)) : flat (a ++ b) = flat a ++ flat b := by simp [flat]
theorem flat_join : ∀ ls : List (List UInt8), ls ≠ [] → flat ls = Lib.join ls [13, 10] ++ [13, 10]
  | [], h => absurd rfl h
  | [x], _ => by rw [Lib.join_one]; simp [flat]
  | x :: y :: r, _ => by
    rw [join_cons2, flat_cons, flat_join (y :: r) (by simp)]
    simp
def lnG : List UInt8 → List UInt8 → Option (List (List UInt8))
  | [], cur => if cur.isEmpty then some [] else none
  | c :: t, cur =>
    if rgC c then lnG t (cur ++ [c])
    else match t with
      | d :: t' => if c = 13 ∧ d = 10 then (lnG t' []).map (cur :: ·) else none
      | [] => none
theorem lnG_rg {c : UInt8} {t cur : List UInt8} (h : rgC c = true) : lnG (c :: t) cur = lnG t (cur ++ [c]) := by
  cases t <;> simp [lnG, h]
theorem lnG_end (t cur : List UInt8) : lnG (13 :: 10 :: t) cur = (lnG t []).map (cur :: ·) := by simp [lnG, rg13]
theorem lnG_run : ∀ (a t cur : List UInt8), rgL a = true → lnG (a ++ t) cur = lnG t (cur ++ a)
  | [], t, cur, _ => by simp
  | c :: a, t, cur, h => by
    have h' : rgC c = true ∧ rgL a = true := by simpa [rgL] using h
    rw [List.cons_append, lnG_rg h'.1, lnG_run a t _ h'.2]
    simp
theorem lnG_line (a t cur : List UInt8) (h : rgL a = true) : lnG (a ++ (13 :: 10 :: t)) cur = (lnG t []).map ((cur ++ a) :: ·) := by
  rw [lnG_run a _ _ h, lnG_end]
theorem lnG_flat : ∀ ls : List (List UInt8), (∀ a ∈ ls, rgL a = true) → lnG (flat ls) [] = some ls
  | [], _ => rfl
  | a :: ls, h => by
    rw [flat_cons, lnG_line a _ _ (h a (by simp)), lnG_flat ls (fun b hb => h b (List.mem_cons_of_mem _ hb))]
    rfl
theorem lnG_stop (l cur : List UInt8) : (∃ a t, l = a ++ (13 :: 10 :: t) ∧ rgL a = true) ∨ (l = [] ∧ cur = [] ∧ lnG l cur = some []) ∨ (lnG l cur = none ∧ (l ≠ [] ∨ cur ≠ []) ∧ ∀ a t, rgL a = true → l ≠ a ++ (13 :: 10 :: t)) := by
  induction l generalizing cur with
  | nil =>
    cases cur with
    | nil => exact .inr (.inl ⟨rfl, rfl, rfl⟩)
    | cons x y => exact .inr (.inr ⟨rfl, .inr (by simp), fun a t _ h => by cases a <;> cases h⟩)
  | cons c t ih =>
    by_cases hc : rgC c = true
    · rcases ih (cur ++ [c]) with ⟨a, t', h1, h2⟩ | ⟨_, h, _⟩ | ⟨h1, _, h3⟩
      · exact .inl ⟨c :: a, t', by rw [h1]; rfl, by simpa [rgL, hc] using h2⟩
      · simp at h
      · refine .inr (.inr ⟨by rw [lnG_rg hc]; exact h1, .inl (by simp), fun a t' ha he => ?_⟩)
        cases a with
        | nil => injection he with he1 _; rw [he1, rg13] at hc; cases hc
        | cons b a =>
          injection he with he1 he2
          have : rgC b = true ∧ rgL a = true := by simpa [rgL] using ha
          exact h3 a t' this.2 he2
    · cases t with
      | nil =>
        refine .inr (.inr ⟨by simp [lnG, hc], .inl (by simp), fun a t' ha he => ?_⟩)
        cases a with
        | nil => simp at he
        | cons b a => injection he with he1 he2; cases a <;> simp at he2
      | cons d t' =>
        by_cases hd : c = 13 ∧ d = 10
        · obtain ⟨rfl, rfl⟩ := hd
          exact .inl ⟨[], t', rfl, rfl⟩
        · refine .inr (.inr ⟨by simp [lnG, hc, hd], .inl (by simp), fun a t'' ha he => ?_⟩)
          cases a with
          | nil =>
            injection he with he1 he2
            injection he2 with he2 _
            exact hd ⟨he1, he2⟩
          | cons b a =>
            injection he with he1 _
            have : rgC b = true ∧ rgL a = true := by simpa [rgL] using ha
            rw [he1] at hc
            exact hc this.1
theorem lnG_some : ∀ (N : Nat) (l : List UInt8) (ls : List (List UInt8)), l.length ≤ N → lnG l [] = some ls → l = flat ls ∧ ∀ a ∈ ls, rgL a = true := by
  intro N
  induction N with
  | zero =>
    intro l ls h he
    obtain rfl : l = [] := List.eq_nil_of_length_eq_zero (by omega)
    obtain rfl := Option.some.inj he
    exact ⟨rfl, by simp⟩
  | succ N ih =>
    intro l ls h he
    rcases lnG_stop l [] with ⟨a, t, rfl, ha⟩ | ⟨rfl, _, h1⟩ | ⟨h1, _, _⟩
    · rw [lnG_line a t [] ha, Option.map_eq_some_iff] at he
      obtain ⟨ls', h1, rfl⟩ := he
      obtain ⟨h2, h3⟩ := ih t ls' (by simp at h; omega) h1
      refine ⟨by rw [List.nil_append, flat_cons, ← h2], fun b hb => ?_⟩
      rcases List.mem_cons.1 hb with rfl | hb
      · exact ha
      · exact h3 b hb
    · rw [h1] at he
      obtain rfl := Option.some.inj he
      exact ⟨rfl, by simp⟩
    · rw [h1] at he; cases he
theorem suffix_trim (b : List UInt8) : Lib.hasSuffix (b ++ [13, 10]) [13, 10] = true ∧ Lib.trimSuffix (b ++ [13, 10]) [13, 10] = b := by
  have h : Lib.hasSuffix (b ++ [13, 10]) [13, 10] = true := List.isSuffixOf_iff_suffix.2 ⟨b, rfl⟩
  refine ⟨h, ?_⟩
  unfold Lib.trimSuffix
  rw [if_pos h]
  simp
theorem suffix_some {s : List UInt8} (h : Lib.hasSuffix s [13, 10] = true) : s = Lib.trimSuffix s [13, 10] ++ [13, 10] := by
  obtain ⟨b, hb⟩ := List.isSuffixOf_iff_suffix.1 h
  rw [← hb, (suffix_trim b).2]
theorem ln_prog {s : List UInt8} (hs : s ≠ []) : lnG s [] = if (Lib.hasSuffix s [13, 10] && (Lib.split (Lib.trimSuffix s [13, 10]) [13, 10]).all rgL) = true then some (Lib.split (Lib.trimSuffix s [13, 10]) [13, 10]) else none := by
  by_cases h : (Lib.hasSuffix s [13, 10] && (Lib.split (Lib.trimSuffix s [13, 10]) [13, 10]).all rgL) = true
  · rw [if_pos h]
    rw [Bool.and_eq_true] at h
    have h1 := suffix_some h.1
    have h2 := split_join (sep := [13, 10]) (by simp) _ (Lib.trimSuffix s [13, 10]) (Nat.le_refl _)
    have h3 := flat_join (Lib.split (Lib.trimSuffix s [13, 10]) [13, 10]) (split_ne _ _)
    rw [h2, ← h1] at h3
    have := lnG_flat _ (List.all_eq_true.1 h.2)
    rw [h3] at this
    exact this
  · rw [if_neg h]
    cases he : lnG s [] with
    | none => rfl
    | some ls =>
      exfalso
      apply h
      obtain ⟨h1, h2⟩ := lnG_some _ s ls (Nat.le_refl _) he
      have hne : ls ≠ [] := fun e => hs (by rw [h1, e]; rfl)
      rw [flat_join ls hne] at h1
      obtain ⟨h3, h4⟩ := suffix_trim (Lib.join ls [13, 10])
      rw [← h1] at h3 h4
      rw [h3, h4, split_parts ls hne (fun a ha => rg_no13 (h2 a ha)), Bool.true_and]
      exact List.all_eq_true.2 h2
end Go.Proofs.YtacjnapgdikhbaaGreatDoor.S

