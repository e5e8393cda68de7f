/- Comments by the document, white space, and the chapter's rows: what the functions come to. -/
import Derived.Test.YtfeihligcondgaaT
namespace Go.Proofs.Ytfeihligcondgaa.S
open Go.RowKit Go.Proofs.Ytfeihligcondgaa.Q Go.Proofs.YtfeihligcondgaaW.PrintWords Go.Proofs.YtfeihligcondgaaW.PrintLast Go.Proofs.YtfeihligcondgaaW.PrintMore
set_option linter.unusedVariables false
set_option linter.unusedSimpArgs false
/-- What the document's reading of a comment from inside, so deep, says of the flat reading. -/
def Inner (s : ByteArray) (l : List UInt8) (d n : Nat) (r : Nat × Nat) : Prop :=
  (r.2 ≠ 0 ∧ r.1 = 0 ∧ cmL l d n = r) ∨ (r.2 = 0 ∧ n < r.1 ∧ r.1 ≤ s.size ∧ cmL l d n = if d = 1 then r else cmL ((L s).drop r.1) (d - 1) r.1)
theorem ref_comment_l0 {s : ByteArray} (hs : s.size ≤ 70368744177664) : ∀ (N : Nat) (l : List UInt8) (d n : Nat), l.length ≤ N → (L s).drop n = l → n ≤ s.size → 1 ≤ d → d ≤ 8 →
    ∃ r, Ev (fun k => postriderref04_comment.l0 k s (n : Int) (d : Int)) (res2 r) ∧ Inner s l d n r := by
  intro N
  induction N with
  | zero =>
    intro l d n h hd hn h1 h8
    obtain rfl : l = [] := List.eq_nil_of_length_eq_zero (by omega)
    have := drop_end hd
    exact ⟨(0, 4), Ev.eq (f := fun _ => some _) (fun k => by simp only [postriderref04_comment.l0]; rw [if_neg (by omega)]; rfl) (Ev.pure _), .inl ⟨by simp, rfl, cm_nil _ _⟩⟩
  | succ N ih =>
    intro l d n h hd hn h1 h8
    cases l with
    | nil =>
      have := drop_end hd
      exact ⟨(0, 4), Ev.eq (f := fun _ => some _) (fun k => by simp only [postriderref04_comment.l0]; rw [if_neg (by omega)]; rfl) (Ev.pure _), .inl ⟨by simp, rfl, cm_nil _ _⟩⟩
    | cons c l =>
      have hlt := drop_lt hd
      have hb := bt_of hd
      have h2 := drop_next hd
      have hsz := drop_size hd hn
      simp only [List.length_cons] at h hsz
      have ew := w1 hlt (by omega)
      have ed := w1 (n := d) (m := 10) (by omega) (by omega)
      by_cases c2 : c = 41
      · have c2' : (c.toNat : Int) = 41 := by rw [c2]; rfl
        refine ⟨(n + 1, 0), Ev.eq (f := fun _ => some _) (fun k => ?_) (Ev.pure _), .inr ⟨rfl, by simp, by simp only; omega, ?_⟩⟩
        · simp only [postriderref04_comment.l0]
          rw [if_pos (by omega), if_pos (by omega), hb, if_pos c2', ew]
          rfl
        · rw [c2, cm_close]
          by_cases hd1 : d = 1
          · rw [if_pos hd1, if_pos hd1]
          · rw [if_neg hd1, if_neg hd1, h2]
      · have c2' : ¬ (c.toNat : Int) = 41 := fun e => c2 ((c_eq c 41).1 e)
        by_cases c1 : c = 40
        · have c1' : (c.toNat : Int) = 40 := by rw [c1]; rfl
          by_cases hd8 : 8 < d + 1
          · refine ⟨(0, 3), ?_, .inl ⟨by simp, rfl, by rw [c1, cm_open, if_pos hd8]⟩⟩
            refine Ev.eq (f := fun k => (postriderref04_comment.f k s (n : Int) ((d + 1 : Nat) : Int)).bind fun bt118 => if bt118.2 = 0 then postriderref04_comment.l0 k s bt118.1 (d : Int) else some (0, bt118.2)) (fun k => ?_) (Ev.bind2 (a := (0, 3)) ?_ ?_)
            · simp only [postriderref04_comment.l0]
              rw [if_pos (by omega), if_pos (by omega), hb, if_neg c2', if_pos c1', ed]
            · exact Ev.eq (f := fun _ => some _) (fun k => by simp only [postriderref04_comment.f]; rw [if_pos (by omega)]) (Ev.pure _)
            · exact Ev.pure _
          · obtain ⟨r, hr, hi⟩ := ih l (d + 1) (n + 1) (by omega) h2 (by omega) (by omega) (by omega)
            have hf : Ev (fun k => postriderref04_comment.f k s (n : Int) ((d + 1 : Nat) : Int)) (res2 r) := by
              refine Ev.eq (fun k => ?_) hr
              simp only [postriderref04_comment.f]
              rw [if_neg (by omega), ew]
            have hstep : ∀ k, postriderref04_comment.l0 (k + 1) s (n : Int) (d : Int) = ((postriderref04_comment.f k s (n : Int) ((d + 1 : Nat) : Int)).bind fun bt118 => if bt118.2 = 0 then postriderref04_comment.l0 k s bt118.1 (d : Int) else some (0, bt118.2)) := by
              intro k
              simp only [postriderref04_comment.l0]
              rw [if_pos (by omega), if_pos (by omega), hb, if_neg c2', if_pos c1', ed]
            rcases hi with ⟨he, h0, hc⟩ | ⟨he, hlo, hhi, hc⟩
            · refine ⟨r, Ev.eq hstep (Ev.bind2 hf ?_), .inl ⟨he, h0, by rw [c1, cm_open, if_neg hd8]; exact hc⟩⟩
              have : ¬ (res2 r).2 = 0 := by unfold res2; simp only; omega
              simp only [this, if_false]
              have e : res2 r = (0, (res2 r).2) := by unfold res2; rw [h0]; rfl
              rw [← e]
              exact Ev.pure _
            · obtain ⟨q, hq, hj⟩ := ih ((L s).drop r.1) d r.1 (by rw [List.length_drop, L_len]; omega) rfl hhi h1 h8
              refine ⟨q, Ev.eq hstep (Ev.bind2 hf ?_), ?_⟩
              · have : (res2 r).2 = 0 := by unfold res2; simp only; omega
                simp only [this, if_true]
                exact hq
              · have ec : cmL (c :: l) d n = cmL ((L s).drop r.1) d r.1 := by
                  rw [c1, cm_open, if_neg hd8, hc, if_neg (by omega)]; rfl
                unfold Inner
                rw [ec]
                rcases hj with ⟨a, b, e⟩ | ⟨a, b, e, f⟩
                · exact .inl ⟨a, b, e⟩
                · exact .inr ⟨a, by omega, e, f⟩
        · have c1' : ¬ (c.toNat : Int) = 40 := fun e => c1 ((c_eq c 40).1 e)
          by_cases c3 : c = 92
          · have c3' : (c.toNat : Int) = 92 := by rw [c3]; rfl
            cases l with
            | nil =>
              simp only [List.length_nil] at hsz
              refine ⟨(0, 4), Ev.eq (f := fun _ => some _) (fun k => ?_) (Ev.pure _), .inl ⟨by simp, rfl, by rw [c3, cm_back]⟩⟩
              simp only [postriderref04_comment.l0]
              rw [if_pos (by omega), if_pos (by omega), hb, if_neg c2', if_neg c1', if_pos c3', ew, if_pos (by omega)]
              rfl
            | cons e l =>
              simp only [List.length_cons] at h hsz
              have hb2 := Lib.hid (bt_of h2)
              have ew2 := Lib.hid (w1 (n := n + 1) (m := s.size) (by omega) (by omega))
              by_cases c4 : plC e
              · obtain ⟨r, hr, hi⟩ := ih l d (n + 2) (by omega) (drop_next h2) (by omega) h1 h8
                refine ⟨r, Ev.eq (fun k => ?_) hr, ?_⟩
                · simp only [postriderref04_comment.l0]
                  rw [if_pos (by omega), if_pos (by omega), hb, if_neg c2', if_neg c1', if_pos c3', ew, if_neg (by omega), if_pos (by omega), if_pos (by omega), hb2.out, ref_plain_f, ew2.out]
                  simp only [c4, if_true, Option.bind_some]
                · unfold Inner
                  rw [c3, cm_pair, if_pos c4]
                  rcases hi with ⟨a, b, e⟩ | ⟨a, b, e, f⟩
                  · exact .inl ⟨a, b, e⟩
                  · exact .inr ⟨a, by omega, e, f⟩
              · refine ⟨(0, 5), Ev.eq (f := fun _ => some _) (fun k => ?_) (Ev.pure _), .inl ⟨by simp, rfl, by rw [c3, cm_pair, if_neg c4]⟩⟩
                simp only [postriderref04_comment.l0]
                rw [if_pos (by omega), if_pos (by omega), hb, if_neg c2', if_neg c1', if_pos c3', ew, if_neg (by omega), if_pos (by omega), if_pos (by omega), hb2.out, ref_plain_f]
                simp only [c4, Option.bind_some]; rfl
          · have c3' : ¬ (c.toNat : Int) = 92 := fun e => c3 ((c_eq c 92).1 e)
            have hstep : ∀ k, plC c = true ∨ c = 9 → postriderref04_comment.l0 (k + 1) s (n : Int) (d : Int) = postriderref04_comment.l0 k s ((n + 1 : Nat) : Int) (d : Int) := by
              intro k hk
              simp only [postriderref04_comment.l0]
              rw [if_pos (by omega), if_pos (by omega), hb, if_neg c2', if_neg c1', if_neg c3', ref_plain_f, ew]
              simp only [Option.bind_some]
              by_cases c5 : plC c
              · rw [if_pos c5]
              · rw [if_neg c5, if_pos (by rw [hk.resolve_left c5]; rfl)]
            by_cases c5 : plC c = true ∨ c = 9
            · obtain ⟨r, hr, hi⟩ := ih l d (n + 1) (by omega) h2 (by omega) h1 h8
              refine ⟨r, Ev.eq (fun k => hstep k c5) hr, ?_⟩
              have ec : cmL (c :: l) d n = cmL l d (n + 1) := by
                by_cases c4 : c = 9
                · rw [c4, cm_tab]
                · rw [cm_else c1 c2 c3 c4, if_pos (c5.resolve_right c4)]
              unfold Inner
              rw [ec]
              rcases hi with ⟨a, b, e⟩ | ⟨a, b, e, f⟩
              · exact .inl ⟨a, b, e⟩
              · exact .inr ⟨a, by omega, e, f⟩
            · have n5 : ¬ plC c = true := fun h => c5 (.inl h)
              have n9 : ¬ c = 9 := fun h => c5 (.inr h)
              refine ⟨(0, 5), Ev.eq (f := fun _ => some _) (fun k => ?_) (Ev.pure _), .inl ⟨by simp, rfl, by rw [cm_else c1 c2 c3 n9, if_neg n5]⟩⟩
              simp only [postriderref04_comment.l0]
              rw [if_pos (by omega), if_pos (by omega), hb, if_neg c2', if_neg c1', if_neg c3', ref_plain_f]
              simp only [Option.bind_some]
              rw [if_neg n5, if_neg (show ¬ (c.toNat : Int) = 9 from fun e => n9 ((c_eq c 9).1 e))]
              rfl
theorem ref_comment_f {s : ByteArray} (hs : s.size ≤ 70368744177664) : Ev (fun k => postriderref04_Comment.f k s) (res2 (cm (L s))) := by
  cases hl : L s with
  | nil =>
    have h0 : (s.size : Int) = 0 := by rw [← L_len, hl]; rfl
    refine Ev.eq (f := fun _ => some _) (fun k => ?_) (Ev.pure _)
    unfold postriderref04_Comment.f
    rw [if_pos h0]; rfl
  | cons c l =>
    have hd : (L s).drop 0 = c :: l := hl
    have hb := bt_of hd
    have hlt := drop_lt hd
    have hsz := drop_size hd (by omega)
    simp only [List.length_cons] at hsz
    have h0 : ¬ (s.size : Int) = 0 := by omega
    by_cases c1 : c = 40
    · obtain ⟨r, hr, hi⟩ := ref_comment_l0 hs l.length l 1 1 (Nat.le_refl _) (drop_next hd) (by omega) (by omega) (by omega)
      have hf : Ev (fun k => postriderref04_comment.f k s 0 1) (res2 r) := by
        refine Ev.eq (fun k => ?_) hr
        simp only [postriderref04_comment.f]
        rw [if_neg (by omega), wk (by omega) (by omega)]; rfl
      have er : cm (c :: l) = r := by
        simp only [cm, c1, if_true]
        rcases hi with ⟨_, _, e⟩ | ⟨_, _, _, e⟩
        · exact e
        · rw [e, if_pos rfl]
      rw [er]
      have : Ev (fun k => (postriderref04_comment.f k s 0 1).bind fun bt122 => some (bt122.1, bt122.2)) (res2 r) := Ev.bind2 hf (Ev.pure _)
      refine Ev.congr (fun k => ?_) this
      unfold postriderref04_Comment.f
      rw [if_neg h0, if_pos (by omega), show bt s 0 = bt s ((0 : Nat) : Int) from rfl, hb, if_pos (by rw [c1]; rfl)]
    · refine Ev.eq (f := fun _ => some _) (fun k => ?_) (Ev.pure _)
      unfold postriderref04_Comment.f
      rw [if_neg h0, if_pos (by omega), show bt s 0 = bt s ((0 : Nat) : Int) from rfl, hb, if_neg (show ¬ (c.toNat : Int) = 40 from fun e => c1 ((c_eq c 40).1 e))]
      simp [cm, c1, res2]
/-! ### Blank -/
theorem bl_nil (n : Nat) : blL [] n = (n, 0) := by rw [blL]
theorem bl_sp (l : List UInt8) (n : Nat) : blL (32 :: l) n = blL l (n + 1) := by rw [blL]; simp
theorem bl_tab (l : List UInt8) (n : Nat) : blL (9 :: l) n = blL l (n + 1) := by rw [blL]; simp
theorem bl_com (l : List UInt8) (n : Nat) : blL (40 :: l) n = if (cm (40 :: l)).2 = 0 then blL (l.drop ((cm (40 :: l)).1 - 1)) (n + (cm (40 :: l)).1) else (0, (cm (40 :: l)).2) := by rw [blL]; simp
theorem bl_else {c : UInt8} (h1 : ¬ c = 32) (h2 : ¬ c = 9) (h3 : ¬ c = 40) (l : List UInt8) (n : Nat) : blL (c :: l) n = (n, 0) := by rw [blL]; simp [h1, h2, h3]
theorem drop_com {α : Type} {L : List α} {n m : Nat} {c : α} {l : List α} (h : L.drop n = c :: l) (hm : 1 ≤ m) : L.drop (n + m) = l.drop (m - 1) := by
  rw [← drop_next h, List.drop_drop]; congr 1; omega
theorem blank_l0 {s : ByteArray} (hs : s.size ≤ 70368744177664) : ∀ (N : Nat) (l : List UInt8) (n : Nat), l.length ≤ N → (L s).drop n = l → n ≤ s.size → Ev (fun k => text_Blank.l0 k s (n : Int)) (res2 (blL l n)) := by
  intro N
  induction N with
  | zero =>
    intro l n h hd hn
    obtain rfl : l = [] := List.eq_nil_of_length_eq_zero (by omega)
    have := drop_end hd
    exact Ev.eq (f := fun _ => some _) (fun k => by simp only [text_Blank.l0]; rw [if_neg (by omega), bl_nil]; rfl) (Ev.pure _)
  | succ N ih =>
    intro l n h hd hn
    cases l with
    | nil =>
      have := drop_end hd
      exact Ev.eq (f := fun _ => some _) (fun k => by simp only [text_Blank.l0]; rw [if_neg (by omega), bl_nil]; rfl) (Ev.pure _)
    | cons c l =>
      have hlt := drop_lt hd
      have hb := bt_of hd
      have h2 := drop_next hd
      have hsz := drop_size hd hn
      simp only [List.length_cons] at h hsz
      have ew := w1 hlt (by omega)
      by_cases c1 : c = 32
      · refine Ev.eq (f := fun k => text_Blank.j1 k s (n : Int) (c.toNat : Int) true) (fun k => ?_) (Ev.eq (f := fun k => text_Blank.l0 k s ((n + 1 : Nat) : Int)) (fun k => ?_) ?_)
        · simp only [text_Blank.l0]
          rw [if_pos (by omega), if_pos (by omega), hb, if_pos (by rw [c1]; rfl), c1]; rfl
        · simp only [text_Blank.j1, if_true]; rw [ew]
        · rw [c1, bl_sp]; exact ih l (n + 1) (by omega) h2 (by omega)
      · have c1' : ¬ (c.toNat : Int) = 32 := fun e => c1 ((c_eq c 32).1 e)
        by_cases c2 : c = 9
        · refine Ev.eq (f := fun k => text_Blank.j1 k s (n : Int) (c.toNat : Int) true) (fun k => ?_) (Ev.eq (f := fun k => text_Blank.l0 k s ((n + 1 : Nat) : Int)) (fun k => ?_) ?_)
          · simp only [text_Blank.l0]
            rw [if_pos (by omega), if_pos (by omega), hb, if_neg c1', c2]; rfl
          · simp only [text_Blank.j1, if_true]; rw [ew]
          · rw [c2, bl_tab]; exact ih l (n + 1) (by omega) h2 (by omega)
        · have c2' : ((c.toNat : Int) == 9) = false := beq_eq_false_iff_ne.mpr (fun e => c2 ((c_eq c 9).1 e))
          have hj : ∀ k, text_Blank.l0 (k + 1) s (n : Int) = text_Blank.j1 k s (n : Int) (c.toNat : Int) false := by
            intro k
            simp only [text_Blank.l0]
            rw [if_pos (by omega), if_pos (by omega), hb, if_neg c1', c2']
          refine Ev.eq hj ?_
          by_cases c3 : c = 40
          · have hx : L (s.extract n s.size) = c :: l := by rw [L_ext_end, hd]
            have hcm := cm_le (c :: l)
            simp only [List.length_cons] at hcm
            have hcf := comment_f (s := s.extract n s.size) (by have := ByteArray.size_extract (a := s) (b := n) (e := s.size); omega)
            rw [hx] at hcf
            refine Ev.eq (f := fun k => (text_Comment.f k (s.extract n s.size)).bind fun bt124 => if bt124.2 = 0 then text_Blank.l0 k s (wrap64 ((n : Int) + bt124.1)) else some (0, bt124.2)) (fun k => ?_) (Ev.bind2 hcf ?_)
            · simp only [text_Blank.j1]
              rw [if_neg (by decide), if_pos (by rw [c3]; rfl), if_pos (by omega), if_pos (by omega), Int.toNat_natCast]
            · rw [c3, bl_com, ← c3]
              by_cases h0 : (cm (c :: l)).2 = 0
              · have hz : (res2 (cm (c :: l))).2 = 0 := by unfold res2; simp only; omega
                simp only [hz, if_true]
                rw [if_pos h0]
                have e1 : wrap64 ((n : Int) + (res2 (cm (c :: l))).1) = ((n + (cm (c :: l)).1 : Nat) : Int) := by
                  unfold res2; simp only; rw [wk (by omega) (by omega)]; omega
                rw [e1]
                exact ih (l.drop ((cm (c :: l)).1 - 1)) (n + (cm (c :: l)).1) (by rw [List.length_drop]; omega) (drop_com hd (by omega)) (by omega)
              · have hz : ¬ (res2 (cm (c :: l))).2 = 0 := by unfold res2; simp only; omega
                simp only [hz, if_false]
                rw [if_neg h0]
                exact Ev.pure _
          · refine Ev.eq (f := fun _ => some _) (fun k => ?_) (Ev.pure _)
            simp only [text_Blank.j1]
            rw [if_neg (by decide), if_neg (show ¬ (c.toNat : Int) = 40 from fun e => c3 ((c_eq c 40).1 e)), bl_else c1 c2 c3]
            rfl
theorem blank_f {s : ByteArray} (hs : s.size ≤ 70368744177664) : Ev (fun k => text_Blank.f k s) (res2 (blL (L s) 0)) := blank_l0 hs (L s).length (L s) 0 (Nat.le_refl _) rfl (by omega)
theorem ref_blank_l0 {s : ByteArray} (hs : s.size ≤ 70368744177664) : ∀ (N : Nat) (l : List UInt8) (n : Nat), l.length ≤ N → (L s).drop n = l → n ≤ s.size → Ev (fun k => postriderref04_Blank.l0 k s (n : Int)) (res2 (blL l n)) := by
  intro N
  induction N with
  | zero =>
    intro l n h hd hn
    obtain rfl : l = [] := List.eq_nil_of_length_eq_zero (by omega)
    have := drop_end hd
    exact Ev.eq (f := fun _ => some _) (fun k => by simp only [postriderref04_Blank.l0]; rw [if_neg (by omega), bl_nil]; rfl) (Ev.pure _)
  | succ N ih =>
    intro l n h hd hn
    cases l with
    | nil =>
      have := drop_end hd
      exact Ev.eq (f := fun _ => some _) (fun k => by simp only [postriderref04_Blank.l0]; rw [if_neg (by omega), bl_nil]; rfl) (Ev.pure _)
    | cons c l =>
      have hlt := drop_lt hd
      have hb := bt_of hd
      have h2 := drop_next hd
      have hsz := drop_size hd hn
      simp only [List.length_cons] at h hsz
      have ew := w1 hlt (by omega)
      by_cases c1 : c = 32
      · refine Ev.eq (f := fun k => postriderref04_Blank.j1 k s (n : Int) true) (fun k => ?_) (Ev.eq (f := fun k => postriderref04_Blank.l0 k s ((n + 1 : Nat) : Int)) (fun k => ?_) ?_)
        · simp only [postriderref04_Blank.l0]
          rw [if_pos (by omega), if_pos (by omega), hb, if_pos (by rw [c1]; rfl)]
        · simp only [postriderref04_Blank.j1, if_true]; rw [ew]
        · rw [c1, bl_sp]; exact ih l (n + 1) (by omega) h2 (by omega)
      · have c1' : ¬ (c.toNat : Int) = 32 := fun e => c1 ((c_eq c 32).1 e)
        by_cases c2 : c = 9
        · refine Ev.eq (f := fun k => postriderref04_Blank.j1 k s (n : Int) true) (fun k => ?_) (Ev.eq (f := fun k => postriderref04_Blank.l0 k s ((n + 1 : Nat) : Int)) (fun k => ?_) ?_)
          · simp only [postriderref04_Blank.l0]
            rw [if_pos (by omega), if_pos (by omega), hb, if_neg c1', c2]; rfl
          · simp only [postriderref04_Blank.j1, if_true]; rw [ew]
          · rw [c2, bl_tab]; exact ih l (n + 1) (by omega) h2 (by omega)
        · have c2' : ((c.toNat : Int) == 9) = false := beq_eq_false_iff_ne.mpr (fun e => c2 ((c_eq c 9).1 e))
          have hj : ∀ k, postriderref04_Blank.l0 (k + 1) s (n : Int) = postriderref04_Blank.j1 k s (n : Int) false := by
            intro k
            simp only [postriderref04_Blank.l0]
            rw [if_pos (by omega), if_pos (by omega), hb, if_neg c1', c2']
          refine Ev.eq hj ?_
          by_cases c3 : c = 40
          · have hx : L (s.extract n s.size) = c :: l := by rw [L_ext_end, hd]
            have hcm := cm_le (c :: l)
            simp only [List.length_cons] at hcm
            have hcf := ref_comment_f (s := s.extract n s.size) (by have := ByteArray.size_extract (a := s) (b := n) (e := s.size); omega)
            rw [hx] at hcf
            refine Ev.eq (f := fun k => (postriderref04_Comment.f k (s.extract n s.size)).bind fun bt124 => if bt124.2 = 0 then postriderref04_Blank.l0 k s (wrap64 ((n : Int) + bt124.1)) else some (0, bt124.2)) (fun k => ?_) (Ev.bind2 hcf ?_)
            · simp only [postriderref04_Blank.j1]
              rw [if_neg (by decide), if_pos (by omega), if_pos (by omega), hb, if_pos (by rw [c3]; rfl), if_pos (by omega), Int.toNat_natCast]
            · rw [c3, bl_com, ← c3]
              by_cases h0 : (cm (c :: l)).2 = 0
              · have hz : (res2 (cm (c :: l))).2 = 0 := by unfold res2; simp only; omega
                simp only [hz, if_true]
                rw [if_pos h0]
                have e1 : wrap64 ((n : Int) + (res2 (cm (c :: l))).1) = ((n + (cm (c :: l)).1 : Nat) : Int) := by
                  unfold res2; simp only; rw [wk (by omega) (by omega)]; omega
                rw [e1]
                exact ih (l.drop ((cm (c :: l)).1 - 1)) (n + (cm (c :: l)).1) (by rw [List.length_drop]; omega) (drop_com hd (by omega)) (by omega)
              · have hz : ¬ (res2 (cm (c :: l))).2 = 0 := by unfold res2; simp only; omega
                simp only [hz, if_false]
                rw [if_neg h0]
                exact Ev.pure _
          · refine Ev.eq (f := fun _ => some _) (fun k => ?_) (Ev.pure _)
            simp only [postriderref04_Blank.j1]
            rw [if_neg (by decide), if_pos (by omega), if_pos (by omega), hb, if_neg (show ¬ (c.toNat : Int) = 40 from fun e => c3 ((c_eq c 40).1 e)), bl_else c1 c2 c3]
            rfl
theorem ref_blank_f {s : ByteArray} (hs : s.size ≤ 70368744177664) : Ev (fun k => postriderref04_Blank.f k s) (res2 (blL (L s) 0)) := ref_blank_l0 hs (L s).length (L s) 0 (Nat.le_refl _) rfl (by omega)
/-! ### The chapter's rows -/
theorem tells_f : Ev (fun k => postriderlaw04_tells.f k) true := by
  unfold postriderlaw04_tells.f
  refine Ev.bindc (a := (⟨#[34, 97, 92, 34, 98, 34]⟩, 0)) (by decide +kernel) ?_
  refine Ev.bind2 (a := (⟨#[120, 32, 121]⟩, 5, 0)) (Ev.of (k := 12) (fun k => text_Quoted.mono _ k) (by decide +kernel)) ?_
  refine Ev.bind2 (a := (9, 0)) (Ev.of (k := 40) (fun k => text_Blank.mono _ k) (by decide +kernel)) ?_
  exact Ev.eq (f := fun _ => some true) (fun k => by decide +kernel) (Ev.pure _)
end Go.Proofs.Ytfeihligcondgaa.S
