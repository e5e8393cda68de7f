/- What is read of a text: its text again; its fields' names. -/
import Derived.Test.YtdciiahlakgikaaDoorHP
import Derived.Test.YtdciiahlakgikaaDoorQx5
namespace Go.Proofs.YtdciiahlakgikaaDoor.S
open Go.RowKit Go.Proofs.YtdciiahlakgikaaDoor.Q Go.Proofs.YtdciiahlakgikaaDoorW.PrintWords Go.Proofs.YtdciiahlakgikaaDoorW.PrintLast Go.Proofs.YtdciiahlakgikaaDoorW.PrintMore
set_option linter.unusedVariables false
set_option linter.unusedSimpArgs false
theorem ms_sub {p q : List UInt8 → Bool} (h : ∀ x, p x = true → q x = true) : ∀ t : List (List UInt8), (t.takeWhile q).takeWhile p = t.takeWhile p ∧ (t.takeWhile q).dropWhile p = (t.dropWhile p).takeWhile q ∧ (t.dropWhile p).dropWhile q = t.dropWhile q
  | [] => ⟨rfl, rfl, rfl⟩
  | x :: t => by
    have ih := ms_sub h t
    by_cases hp : p x = true
    · have hq := h x hp
      simp only [List.takeWhile_cons, List.dropWhile_cons, hp, hq, if_true]
      exact ⟨by rw [ih.1], ih.2.1, ih.2.2⟩
    · have hp' : p x = false := by simpa using hp
      by_cases hq : q x = true
      · simp [List.takeWhile_cons, List.dropWhile_cons, hp', hq]
      · simp [List.takeWhile_cons, List.dropWhile_cons, hp', hq]
theorem ms_wh (x : List UInt8) (h : whL x = true) : noE x = true := by
  cases x with
  | nil => cases h
  | cons c t => rfl
theorem ms_nil : msL [] = some ([], [], true) := by unfold msL; rw [show ([] : List (List UInt8)).takeWhile noE = [] from rfl, fsS]; rfl
theorem ms_end (t : List (List UInt8)) : msL ([] :: t) = some ([], flat t, false) := by
  unfold msL
  have h1 : (([] : List UInt8) :: t).takeWhile noE = [] := by rw [List.takeWhile_cons, if_neg (by simp [noE])]
  have h2 : (([] : List UInt8) :: t).dropWhile noE = [] :: t := by rw [List.dropWhile_cons, if_neg (by simp [noE])]
  rw [h1, h2, fsS]; rfl
theorem ms_cons {a : List UInt8} (ha : a ≠ []) (t : List (List UInt8)) : msL (a :: t) = if fdB (a :: t.takeWhile whL) then (msL (t.dropWhile whL)).map (fun m => (fdV (a :: t.takeWhile whL) :: m.1, m.2.1, m.2.2)) else none := by
  have hn : noE a = true := by cases a with
    | nil => exact absurd rfl ha
    | cons c t => rfl
  obtain ⟨s1, s2, s3⟩ := ms_sub ms_wh t
  unfold msL
  rw [List.takeWhile_cons, if_pos hn, List.dropWhile_cons, if_pos hn, fsS_cons, s1, s2, s3]
  cases fdB (a :: t.takeWhile whL) with
  | false => rfl
  | true =>
    simp only [if_true]
    cases fsS ((t.dropWhile whL).takeWhile noE) with
    | none => rfl
    | some fs => cases t.dropWhile noE <;> rfl
/-- What must hold of a message that is read of lines. -/
def MsOk (ls : List (List UInt8)) (m : List Fld × List UInt8 × Bool) : Prop :=
  (m.1.map (·.2.2)).flatten ++ (if m.2.2 = true then [] else 13 :: 10 :: m.2.1) = flat ls ∧ m.1.length ≤ ls.length ∧ ∀ f ∈ m.1, fnL f.1 = true ∧ f.1.length ≤ (flat ls).length ∧ f.2.1.length ≤ (flat ls).length
theorem ms_ok : ∀ (N : Nat) (ls : List (List UInt8)) (m : List Fld × List UInt8 × Bool), ls.length ≤ N → msL ls = some m → MsOk ls m := by
  intro N
  induction N with
  | zero =>
    intro ls m h he
    obtain rfl : ls = [] := List.eq_nil_of_length_eq_zero (by omega)
    rw [ms_nil] at he
    obtain rfl := Option.some.inj he
    exact ⟨rfl, Nat.le_refl _, fun f hf => by cases hf⟩
  | succ N ih =>
    intro ls m h he
    cases ls with
    | nil => rw [ms_nil] at he; obtain rfl := Option.some.inj he; exact ⟨rfl, Nat.le_refl _, fun f hf => by cases hf⟩
    | cons a t =>
      by_cases ha : a = []
      · subst ha
        rw [ms_end] at he
        obtain rfl := Option.some.inj he
        exact ⟨by simp [flat_cons], by simp, fun f hf => by cases hf⟩
      · rw [ms_cons ha] at he
        split at he
        · rename_i hb
          obtain ⟨m', h1, rfl⟩ := Option.map_eq_some_iff.1 he
          have hd := (List.dropWhile_suffix (l := t) whL).length_le
          simp only [List.length_cons] at h
          obtain ⟨g1, g2, g3⟩ := ih (t.dropWhile whL) m' (by omega) h1
          have hsp : flat (a :: t) = flat (a :: t.takeWhile whL) ++ flat (t.dropWhile whL) := by
            rw [← flat_app, List.cons_append, List.takeWhile_append_dropWhile]
          have hl2 : (flat (t.dropWhile whL)).length ≤ (flat (a :: t)).length := by rw [hsp, List.length_append]; omega
          have hl1 : (flat (a :: t.takeWhile whL)).length ≤ (flat (a :: t)).length := by rw [hsp, List.length_append]; omega
          refine ⟨?_, by simp only [List.length_cons]; omega, fun f hf => ?_⟩
          · rw [hsp, ← g1]
            simp [fdV]
          · rcases List.mem_cons.1 hf with rfl | hf
            · have hfl := flat_len (a :: t.takeWhile whL)
              simp only [fdB, Bool.and_eq_true] at hb
              have hac : a.all col = false := by
                have := col_any a
                rw [hb.1] at this
                cases h9 : a.all col with
                | false => rfl
                | true => rw [h9] at this; cases this
              refine ⟨?_, ?_, ?_⟩
              · show fnL (rdL ((a :: t.takeWhile whL).flatten.takeWhile col)) = true
                rw [List.flatten_cons, tw_some col a _ hac]
                exact hb.2
              · show (rdL ((a :: t.takeWhile whL).flatten.takeWhile col)).length ≤ _
                have q1 := (List.isPrefixOf_iff_prefix.1 (rd_pre ((a :: t.takeWhile whL).flatten.takeWhile col))).length_le
                have q2 := (List.takeWhile_prefix (l := (a :: t.takeWhile whL).flatten) col).length_le
                omega
              · show (trimL ((a :: t.takeWhile whL).flatten.dropWhile col).tail).length ≤ _
                have q1 := trim_len ((a :: t.takeWhile whL).flatten.dropWhile col).tail
                have q2 := (List.dropWhile_suffix (l := (a :: t.takeWhile whL).flatten) col).length_le
                rw [List.length_tail] at q1
                omega
            · obtain ⟨q1, q2, q3⟩ := g3 f hf
              exact ⟨q1, by omega, by omega⟩
        · cases he
/-- What is read of a text has just that text. -/
theorem ms_of {l : List UInt8} {m : List Fld × List UInt8 × Bool} (h : msS l = some m) : (m.1.map (·.2.2)).flatten ++ (if m.2.2 = true then [] else 13 :: 10 :: m.2.1) = l ∧ m.1.length ≤ l.length ∧ ∀ f ∈ m.1, fnL f.1 = true ∧ f.1.length ≤ l.length ∧ f.2.1.length ≤ l.length := by
  unfold msS at h
  obtain ⟨ls, hls, hml⟩ := Option.bind_eq_some_iff.1 h
  obtain ⟨g1, g2⟩ := lnG_some _ _ ls (Nat.le_refl _) hls
  have hc := flat_count ls
  rw [← g1] at hc
  obtain ⟨q1, q2, q3⟩ := ms_ok ls.length ls m (Nat.le_refl _) hml
  rw [← g1] at q1 q3
  exact ⟨q1, by omega, q3⟩
theorem headPre_all (l : List S41) : headPre l l.length = (l.map (·.f2.data.toList)).flatten := by
  unfold headPre; rw [List.take_length]
theorem headText_mk (m : List Fld × List UInt8 × Bool) : headText (m.1.map mkS) (B m.2.1) m.2.2 = (m.1.map (·.2.2)).flatten ++ (if m.2.2 = true then [] else 13 :: 10 :: m.2.1) := by
  unfold headText
  rw [headPre_all, List.map_map]
  rfl
theorem text_f {l : List S41} {b : ByteArray} {e : Bool} (h : (headText l b e).length ≤ 100000000) (hl : l.length ≤ 100000000) (hb : b.size ≤ 100000000) : head_Message_Text.f l b e = some (B (headText l b e)) := by
  unfold head_Message_Text.f
  rw [if_pos ⟨by omega, by omega, by omega⟩]; rfl
theorem rdS (l : List S41) (j : Nat) (h : j < l.length) : rd_T41 l (j : Int) = l[j]'h := by
  unfold rd_T41
  rw [Int.toNat_natCast, List.getD_eq_getElem?_getD, List.getElem?_eq_getElem h]; rfl
end Go.Proofs.YtdciiahlakgikaaDoor.S
