/- The document's answers for letters, atoms, splitting, trimming, numbers, small letters: what they come to. -/
import Derived.Test.YtfeihligcondgaaDoorX
namespace Go.Proofs.YtfeihligcondgaaDoor.S
open Go.RowKit Go.Proofs.YtfeihligcondgaaDoor.Q Go.Proofs.YtfeihligcondgaaDoorW.PrintWords Go.Proofs.YtfeihligcondgaaDoorW.PrintLast Go.Proofs.YtfeihligcondgaaDoorW.PrintMore
set_option linter.unusedVariables false
set_option linter.unusedSimpArgs false
def nmx (l : List UInt8) : List Int := l.map fun c => (c.toNat : Int)
theorem nmx_len (l : List UInt8) : (nmx l).length = l.length := by simp [nmx]
theorem nmx_snoc (l : List UInt8) (c : UInt8) : nmx l ++ [(c.toNat : Int)] = nmx (l ++ [c]) := by simp [nmx]
theorem str_nmx (l : List UInt8) : strOfNums (nmx l) = B l := by simp [strOfNums, nmx, B, Function.comp_def]
theorem low_num (c : UInt8) (h1 : 65 ≤ c.toNat) (h2 : c.toNat ≤ 90) : ((c.toNat : Int) + 32) % 256 = ((lowC c).toNat : Int) := by
  unfold lowC; rw [if_pos ⟨h1, h2⟩, UInt8.toNat_add]; simp
theorem low_same (c : UInt8) (h : ¬ (65 ≤ c.toNat ∧ c.toNat ≤ 90)) : lowC c = c := by unfold lowC; rw [if_neg h]
theorem ref_lower_l0 {s : ByteArray} (hs : s.size ≤ 70368744177) : ∀ (l out : List UInt8) (n : Nat), (L s).drop n = l → n ≤ s.size → out.length ≤ n →
    Ev (fun k => postriderref04_Lower.l0 k s (nmx out) (n : Int)) (B (out ++ l.map lowC)) := by
  intro l
  induction l with
  | nil =>
    intro out n hd hn ho
    have := drop_end hd
    refine Ev.eq (f := fun _ => some _) (fun k => ?_) (Ev.pure _)
    simp only [postriderref04_Lower.l0]
    rw [if_neg (by omega), str_nmx]; simp
  | cons c l ih =>
    intro out n hd hn ho
    have hlt := drop_lt hd
    have hb := bt_of hd
    have ew := w1 hlt (by omega)
    have hc := UInt8.toNat_lt c
    refine Ev.eq (f := fun k => postriderref04_Lower.l0 k s (nmx (out ++ [lowC c])) ((n + 1 : Nat) : Int)) (fun k => ?_) ?_
    · simp only [postriderref04_Lower.l0]
      rw [if_pos (by omega), if_pos (by omega), hb, ew]
      by_cases h1 : 65 ≤ c.toNat
      · by_cases h2 : c.toNat ≤ 90
        · rw [if_pos (by omega), if_pos (by omega), if_pos (by rw [nmx_len]; omega), low_num c h1 h2, nmx_snoc]
        · rw [if_pos (by omega), if_neg (by omega), if_pos (by rw [nmx_len]; omega), nmx_snoc, low_same c (by omega)]
      · rw [if_neg (by omega), if_pos (by rw [nmx_len]; omega), nmx_snoc, low_same c (by omega)]
    · have := ih (out ++ [lowC c]) (n + 1) (drop_next hd) (by omega) (by simp; omega)
      simpa using this
theorem ref_lower_f {s : ByteArray} (hs : s.size ≤ 70368744177) : Ev (fun k => postriderref04_Lower.f k s) (B ((L s).map lowC)) := by
  have := ref_lower_l0 hs (L s) [] 0 rfl (by omega) (by simp)
  rw [List.nil_append] at this
  exact this
/-! ### letters -/
theorem letter_l0 : ∀ (c : Nat) (d j : Nat), d + j = 19 →
    Ev (fun k => postriderref04_Letter.l0 k (c : Int) (⟨#[33, 35, 36, 37, 38, 39, 42, 43, 45, 47, 61, 63, 94, 95, 96, 123, 124, 125, 126]⟩ : ByteArray) (j : Int)) ((letL.drop j).any fun x => x.toNat == c) := by
  intro c d
  induction d with
  | zero =>
    intro j h
    obtain rfl : j = 19 := by omega
    refine Ev.eq (f := fun _ => some _) (fun k => ?_) (Ev.pure _)
    simp only [postriderref04_Letter.l0]
    rw [if_neg (by decide)]; rfl
  | succ d ih =>
    intro j h
    have hll : letL.length = 19 := by decide
    have hj : j < letL.length := by omega
    have hj9 : j < 19 := by omega
    have hd : (L (⟨#[33, 35, 36, 37, 38, 39, 42, 43, 45, 47, 61, 63, 94, 95, 96, 123, 124, 125, 126]⟩ : ByteArray)).drop j = letL[j]'hj :: letL.drop (j + 1) := List.drop_eq_getElem_cons hj
    have hb := bt_of hd
    have hsz : ((⟨#[33, 35, 36, 37, 38, 39, 42, 43, 45, 47, 61, 63, 94, 95, 96, 123, 124, 125, 126]⟩ : ByteArray).size : Int) = 19 := by decide
    have ew := w1 (n := j) (m := 19) hj9 (by omega)
    rw [show letL.drop j = letL[j]'hj :: letL.drop (j + 1) from hd, List.any_cons]
    clear hd
    generalize letL[j]'hj = x at hb ⊢
    by_cases e : x.toNat = c
    · refine Ev.eq (f := fun _ => some _) (fun k => ?_) (Ev.pure _)
      simp only [postriderref04_Letter.l0]
      rw [hsz, if_pos (by omega), if_pos (by omega), hb, if_pos (by omega)]
      simp [e]
    · refine Ev.eq (f := fun k => postriderref04_Letter.l0 k (c : Int) (⟨#[33, 35, 36, 37, 38, 39, 42, 43, 45, 47, 61, 63, 94, 95, 96, 123, 124, 125, 126]⟩ : ByteArray) ((j + 1 : Nat) : Int)) (fun k => ?_) ?_
      · simp only [postriderref04_Letter.l0]
        rw [hsz, if_pos (by omega), if_pos (by omega), hb, if_neg (by omega), ew]
      · have := ih (j + 1) (by omega)
        rw [show (x.toNat == c) = false from beq_eq_false_iff_ne.mpr e, Bool.false_or]
        exact this
theorem letter_j0 (c : Nat) (b : Bool) : Ev (fun k => postriderref04_Letter.j0 k (c : Int) b) (b || letL.any fun x => x.toNat == c) := by
  cases b with
  | true => exact Ev.eq (f := fun _ => some _) (fun k => by simp only [postriderref04_Letter.j0, if_true]; rfl) (Ev.pure _)
  | false => exact Ev.eq (fun k => by simp only [postriderref04_Letter.j0]; rfl) (letter_l0 c 19 0 rfl)
theorem dec57 (n : Nat) : decide ((n : Int) ≤ 57) = decide (n ≤ 57) := decide_eq_decide.mpr (by omega)
theorem letter_f (c : UInt8) : Ev (fun k => postriderref04_Letter.f k (c.toNat : Int)) (letC c) := by
  have hc := UInt8.toNat_lt c
  unfold letC
  generalize c.toNat = n at hc ⊢
  have key : ∀ b, b = ((decide (97 ≤ n) && decide (n ≤ 122)) || (decide (65 ≤ n) && decide (n ≤ 90)) || (decide (48 ≤ n) && decide (n ≤ 57))) → (∀ k, postriderref04_Letter.f k (n : Int) = postriderref04_Letter.j0 k (n : Int) b) → Ev (fun k => postriderref04_Letter.f k (n : Int)) (letN n) := by
    intro b hb hf
    have := letter_j0 n b
    refine Ev.congr hf ?_
    unfold letN
    rw [← hb]; exact this
  by_cases h1 : 97 ≤ n
  · by_cases h2 : n ≤ 122
    · exact key true (by simp [h1, h2]) (fun k => by unfold postriderref04_Letter.f; rw [if_pos (by omega), if_pos (by omega)])
    · exact key (decide ((n : Int) ≤ 57)) (by rw [dec57, Bool.eq_iff_iff]; simp; omega) (fun k => by unfold postriderref04_Letter.f; rw [if_pos (by omega), if_neg (by omega), if_pos (by omega), if_neg (by omega), if_pos (by omega)])
  · by_cases h2 : 65 ≤ n
    · by_cases h3 : n ≤ 90
      · exact key true (by simp [h2, h3]) (fun k => by unfold postriderref04_Letter.f; rw [if_neg (by omega), if_pos (by omega), if_pos (by omega)])
      · exact key (decide ((n : Int) ≤ 57)) (by rw [dec57, Bool.eq_iff_iff]; simp; omega) (fun k => by unfold postriderref04_Letter.f; rw [if_neg (by omega), if_pos (by omega), if_neg (by omega), if_pos (by omega)])
    · by_cases h3 : 48 ≤ n
      · exact key (decide ((n : Int) ≤ 57)) (by rw [dec57, Bool.eq_iff_iff]; simp; omega) (fun k => by unfold postriderref04_Letter.f; rw [if_neg (by omega), if_neg (by omega), if_pos (by omega)])
      · exact key false (by rw [Bool.eq_iff_iff]; simp; omega) (fun k => by unfold postriderref04_Letter.f; rw [if_neg (by omega), if_neg (by omega), if_neg (by omega)])
theorem ref_atom_l0 {s : ByteArray} (hs : s.size ≤ 70368744177) : ∀ (l : List UInt8) (n : Nat), (L s).drop n = l → n ≤ s.size → Ev (fun k => postriderref04_Atom.l0 k s (n : Int)) (l.all letC && !(L s).isEmpty) := by
  intro l
  induction l with
  | nil =>
    intro n hd hn
    have := drop_end hd
    refine Ev.eq (f := fun _ => some _) (fun k => ?_) (Ev.pure _)
    simp only [postriderref04_Atom.l0]
    rw [if_neg (by omega)]
    have e : decide ((s.size : Int) > 0) = !(L s).isEmpty := by
      cases hl : L s with
      | nil => have := L_len s; rw [hl, List.length_nil] at this; rw [decide_eq_false (by omega)]; rfl
      | cons a t => have := L_len s; rw [hl, List.length_cons] at this; rw [decide_eq_true (by omega)]; rfl
    rw [e]; simp
  | cons c l ih =>
    intro n hd hn
    have hlt := drop_lt hd
    have hb := bt_of hd
    have ew := w1 hlt (by omega)
    refine Ev.eq (f := fun k => (postriderref04_Letter.f k (c.toNat : Int)).bind fun t => if t = true then postriderref04_Atom.l0 k s ((n + 1 : Nat) : Int) else some false) (fun k => ?_) (Ev.bind2 (letter_f c) ?_)
    · simp only [postriderref04_Atom.l0]
      rw [if_pos (by omega), if_pos (by omega), hb, ew]
    · by_cases h : letC c = true
      · simp only [h, if_true, List.all_cons, Bool.true_and]
        exact ih (n + 1) (drop_next hd) (by omega)
      · have h' : letC c = false := by simpa using h
        simp only [h', List.all_cons, Bool.false_and]
        exact Ev.pure _
theorem ref_atom_f {s : ByteArray} (hs : s.size ≤ 70368744177) : Ev (fun k => postriderref04_Atom.f k s) (atomB s) := by
  have := ref_atom_l0 hs (L s) 0 rfl (by omega)
  rw [Bool.and_comm] at this
  exact this
theorem ref_dot_l0 {s : ByteArray} (hs : s.size ≤ 70368744177) : ∀ (l : List UInt8) (p : Bool) (n : Nat), (L s).drop n = l → n ≤ s.size → Ev (fun k => postriderref04_DotAtom.l0 k s p (n : Int)) (dtL l p) := by
  intro l
  induction l with
  | nil =>
    intro p n hd hn
    have := drop_end hd
    refine Ev.eq (f := fun _ => some _) (fun k => ?_) (Ev.pure _)
    simp only [postriderref04_DotAtom.l0]
    rw [if_neg (by omega)]; rfl
  | cons c l ih =>
    intro p n hd hn
    have hlt := drop_lt hd
    have hb := bt_of hd
    have ew := w1 hlt (by omega)
    rw [dtL]
    by_cases e : c = 46
    · rw [if_pos e]
      cases p with
      | true =>
        refine Ev.eq (f := fun _ => some _) (fun k => ?_) (Ev.pure _)
        simp only [postriderref04_DotAtom.l0]
        rw [if_pos (by omega), if_pos (by omega), hb, if_pos (show (c.toNat : Int) = 46 by rw [e]; rfl)]; rfl
      | false =>
        refine Ev.eq (f := fun k => postriderref04_DotAtom.l0 k s true ((n + 1 : Nat) : Int)) (fun k => ?_) ?_
        · simp only [postriderref04_DotAtom.l0]
          rw [if_pos (by omega), if_pos (by omega), hb, if_pos (show (c.toNat : Int) = 46 by rw [e]; rfl), ew]; rfl
        · exact ih true (n + 1) (drop_next hd) (by omega)
    · rw [if_neg e]
      refine Ev.eq (f := fun k => (postriderref04_Letter.f k (c.toNat : Int)).bind fun t => if t = true then postriderref04_DotAtom.l0 k s false ((n + 1 : Nat) : Int) else some false) (fun k => ?_) (Ev.bind2 (letter_f c) ?_)
      · simp only [postriderref04_DotAtom.l0]
        rw [if_pos (by omega), if_pos (by omega), hb, if_neg (show ¬ (c.toNat : Int) = 46 from fun h => e ((c_eq c 46).1 h)), ew]
      · by_cases h : letC c = true
        · simp only [h, if_true]
          exact ih false (n + 1) (drop_next hd) (by omega)
        · have h' : letC c = false := by simpa using h
          simp only [h']
          exact Ev.pure _
theorem ref_dot_f {s : ByteArray} (hs : s.size ≤ 70368744177) : Ev (fun k => postriderref04_DotAtom.f k s) (dtL (L s) true) := ref_dot_l0 hs (L s) true 0 rfl (by omega)
/-! ### splitting -/
theorem ref_split_l0 {s : ByteArray} {c : UInt8} (hs : s.size ≤ 4398046511) : ∀ (l : List UInt8) (out : List ByteArray) (m n : Nat), (L s).drop n = l → n ≤ s.size → m ≤ n → out.length ≤ n →
    Ev (fun k => postriderref04_Split.l0 k s (c.toNat : Int) out (m : Int) (n : Int)) (out ++ (spL c l (((L s).drop m).take (n - m))).map B) := by
  intro l
  induction l with
  | nil =>
    intro out m n hd hn hm ho
    have h1 := drop_end hd
    obtain rfl : n = s.size := by omega
    refine Ev.eq (f := fun _ => some _) (fun k => ?_) (Ev.pure _)
    simp only [postriderref04_Split.l0]
    rw [if_neg (by omega), if_pos (by omega), if_pos (by omega), if_pos (by omega), Int.toNat_natCast, ext_B]
    rfl
  | cons b l ih =>
    intro out m n hd hn hm ho
    have hlt := drop_lt hd
    have hb := bt_of hd
    have ew := w1 hlt (by omega)
    by_cases e : b = c
    · refine Ev.eq (f := fun k => postriderref04_Split.l0 k s (c.toNat : Int) (out ++ [s.extract m n]) ((n + 1 : Nat) : Int) ((n + 1 : Nat) : Int)) (fun k => ?_) ?_
      · simp only [postriderref04_Split.l0]
        rw [if_pos (by omega), if_pos (by omega), hb, if_pos (by rw [e]), if_pos (by omega), if_pos (by omega), if_pos (by omega), if_pos (by omega), ew]
        simp only [Int.toNat_natCast]
      · have := ih (out ++ [s.extract m n]) (n + 1) (n + 1) (drop_next hd) (by omega) (Nat.le_refl _) (by rw [List.length_append]; simp; omega)
        rw [spL, if_pos e]
        rw [Nat.sub_self, List.take_zero, ext_B] at this
        rw [ext_B]
        simpa using this
    · refine Ev.eq (f := fun k => postriderref04_Split.l0 k s (c.toNat : Int) out (m : Int) ((n + 1 : Nat) : Int)) (fun k => ?_) ?_
      · simp only [postriderref04_Split.l0]
        rw [if_pos (by omega), if_pos (by omega), hb, if_neg (fun h => e ((c_eq b c).1 h)), ew]
      · have := ih out m (n + 1) (drop_next hd) (by omega) (by omega) (by omega)
        rw [spL, if_neg e]
        have et : ((L s).drop m).take (n - m) ++ [b] = ((L s).drop m).take (n + 1 - m) := by
          rw [show n + 1 - m = (n - m) + 1 by omega, List.take_succ_eq_append_getElem (by rw [List.length_drop, L_len]; omega)]
          congr 1
          have h3 : (L s)[m + (n - m)]'(by rw [L_len]; omega) = b := by
            have h4 := List.drop_eq_getElem_cons (l := L s) (i := n) (by rw [L_len]; omega)
            rw [hd] at h4
            injection h4 with h5 _
            rw [h5]; congr 1; omega
          rw [List.getElem_drop, h3]
        rw [et]; exact this
theorem ref_split_f {s : ByteArray} {c : UInt8} (hs : s.size ≤ 4398046511) : Ev (fun k => postriderref04_Split.f k s (c.toNat : Int)) ((spL c (L s) []).map B) := by
  have := ref_split_l0 (c := c) hs (L s) [] 0 0 rfl (by omega) (by omega) (by simp)
  rw [List.nil_append] at this
  exact this
/-! ### numbers -/
theorem ref_number_l0 {s : ByteArray} (hs : s.size ≤ 15) : ∀ (l : List UInt8) (n : Nat) (x : Int), (L s).drop n = l → n ≤ s.size → 0 ≤ x → x < 10 ^ n →
    Ev (fun k => postriderref04_Number.l0 k s x (n : Int)) (if l.all digC then (l.foldl (fun n c => 10 * n + ((c.toNat : Int) - 48)) x, 0) else (0, 5)) := by
  intro l
  induction l with
  | nil =>
    intro n x hd hn h0 h1
    have := drop_end hd
    refine Ev.eq (f := fun _ => some _) (fun k => ?_) (Ev.pure _)
    simp only [postriderref04_Number.l0]
    rw [if_neg (by omega)]; rfl
  | cons c l ih =>
    intro n x hd hn h0 h1
    have hlt := drop_lt hd
    have hb := bt_of hd
    have ew := w1 hlt (by omega)
    have hc := UInt8.toNat_lt c
    have hp : (10 : Int) ^ n ≤ 1000000000000000 := by
      have : ∀ j, j < 16 → (10 : Int) ^ j ≤ 1000000000000000 := by decide
      exact this n (by omega)
    by_cases hd1 : 48 ≤ c.toNat
    · by_cases hd2 : c.toNat ≤ 57
      · have hg : digC c = true := by unfold digC; simp [hd1, hd2]
        refine Ev.eq (f := fun k => postriderref04_Number.l0 k s (10 * x + ((c.toNat : Int) - 48)) ((n + 1 : Nat) : Int)) (fun k => ?_) ?_
        · simp only [postriderref04_Number.l0]
          rw [if_pos (by omega), if_pos (by omega), hb, if_neg (by omega), if_neg (by omega), ew]
          have e1 : wrap64 (10 * x) = 10 * x := wk (by omega) (by omega)
          have e2 : ((c.toNat : Int) - 48) % 256 = (c.toNat : Int) - 48 := by omega
          rw [e1, e2, wk (by omega) (by omega)]
        · have := ih (n + 1) (10 * x + ((c.toNat : Int) - 48)) (drop_next hd) (by omega) (by omega) (by rw [Int.pow_succ]; omega)
          rw [List.all_cons, hg, Bool.true_and]
          exact this
      · have hg : digC c = false := by unfold digC; simp [hd2]
        refine Ev.eq (f := fun _ => some _) (fun k => ?_) (Ev.pure _)
        simp only [postriderref04_Number.l0]
        rw [if_pos (by omega), if_pos (by omega), hb, if_neg (by omega), if_pos (by omega), List.all_cons, hg]; rfl
    · have hg : digC c = false := by unfold digC; simp [hd1]
      refine Ev.eq (f := fun _ => some _) (fun k => ?_) (Ev.pure _)
      simp only [postriderref04_Number.l0]
      rw [if_pos (by omega), if_pos (by omega), hb, if_pos (by omega), List.all_cons, hg]; rfl
theorem ref_number_f {s : ByteArray} (hs : s.size ≤ 70368744177) (d : Int) : Ev (fun k => postriderref04_Number.f k s d) (if numOK s d then (numL (L s), 0) else (0, 5)) := by
  obtain ⟨m, hm⟩ : ∃ m, max 1 (min d 15) = m := ⟨_, rfl⟩
  have hj1 : Ev (fun k => postriderref04_Number.j1 k s m) (if numOK s d then (numL (L s), 0) else (0, 5)) := by
    have hbad : ∀ b : Bool, b = true → numOK s d = false → Ev (fun k => postriderref04_Number.j2 k s b) (if numOK s d then (numL (L s), 0) else (0, 5)) := by
      intro b hb hf
      rw [hb, hf]
      exact Ev.eq (f := fun _ => some _) (fun k => by simp only [postriderref04_Number.j2, if_true]; rfl) (Ev.pure _)
    by_cases h0 : (s.size : Int) < 1
    · refine Ev.eq (fun k => by simp only [postriderref04_Number.j1]; rw [if_pos h0]) (hbad true rfl ?_)
      have : L s = [] := List.eq_nil_of_length_eq_zero (by rw [L_len]; omega)
      unfold numOK; rw [show s.data.toList = [] from this]; rfl
    · have hne : s.data.toList.isEmpty = false := by
        cases hl : s.data.toList with
        | nil => have := L_len s; rw [show L s = [] from hl] at this; simp at this; omega
        | cons a t => rfl
      by_cases h1 : (s.size : Int) > m
      · refine Ev.eq (fun k => by simp only [postriderref04_Number.j1]; rw [if_neg h0, decide_eq_true h1]) (hbad true rfl ?_)
        unfold numOK; rw [hm, decide_eq_false (by omega)]; simp
      · refine Ev.eq (fun k => by simp only [postriderref04_Number.j1]; rw [if_neg h0, decide_eq_false h1]) ?_
        refine Ev.eq (fun k => by simp only [postriderref04_Number.j2]; rfl) ?_
        have := ref_number_l0 (s := s) (by omega) (L s) 0 0 rfl (by omega) (by omega) (by decide)
        have e : numOK s d = (L s).all digC := by unfold numOK; rw [hm, decide_eq_true (by omega), hne]; rfl
        rw [e]; exact this
  unfold postriderref04_Number.f
  by_cases h1 : d < 1
  · simp only [h1, if_true]
    obtain rfl : m = 1 := by omega
    exact Ev.eq (fun k => by simp only [postriderref04_Number.j0]; rw [if_neg (by omega)]) hj1
  · simp only [h1, if_false]
    by_cases h2 : d > 15
    · obtain rfl : m = 15 := by omega
      exact Ev.eq (fun k => by simp only [postriderref04_Number.j0]; rw [if_pos h2]) hj1
    · obtain rfl : m = d := by omega
      exact Ev.eq (fun k => by simp only [postriderref04_Number.j0]; rw [if_neg h2]) hj1
end Go.Proofs.YtfeihligcondgaaDoor.S
