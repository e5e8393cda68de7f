/- Comments and white space: what the text layer's functions come to. -/
import Derived.Test.YtfeihligcondgaaDoorS
import Derived.Test.YtfeihligcondgaaDoorBx1
import Derived.Test.YtfeihligcondgaaDoorBx2
namespace Go.Proofs.YtfeihligcondgaaDoor.S
open Go.RowKit Go.Proofs.YtfeihligcondgaaDoor.B Go.Proofs.YtfeihligcondgaaDoorW.PrintWords Go.Proofs.YtfeihligcondgaaDoorW.PrintLast Go.Proofs.YtfeihligcondgaaDoorW.PrintMore
set_option linter.unusedVariables false
set_option linter.unusedSimpArgs false
def res2 (x : Nat × Nat) : Int × Int := ((x.1 : Int), (x.2 : Int))
theorem plain_f (c : UInt8) : text_plain.f (c.toNat : Int) = some (plC c) := by
  unfold text_plain.f plC
  by_cases h : 32 ≤ c.toNat
  · rw [if_pos (by omega)]; simp [h]; omega
  · rw [if_neg (by omega)]; simp [h]
def pairL : List UInt8 → Option (Int × Int)
  | [] => some (0, 4)
  | d :: _ => if plC d then some ((d.toNat : Int), 0) else some (0, 5)
theorem pair_f {s : ByteArray} (hs : s.size ≤ 70368744177664) {n : Nat} {c : UInt8} {l : List UInt8} (h : (L s).drop n = c :: l) :
    text_pair.f s (n : Int) = pairL l := by
  have hlt := drop_lt h
  have hsz := drop_size h (by omega)
  have h2 := drop_next h
  unfold text_pair.f
  rw [w1 hlt (by omega)]
  cases l with
  | nil => simp only [List.length_cons, List.length_nil] at hsz; rw [if_pos (by omega)]; rfl
  | cons d l =>
    simp only [List.length_cons] at hsz
    rw [if_neg (by omega), if_pos (by omega), if_pos (by omega), bt_of h2, plain_f]
    simp only [Option.bind_some, pairL]
/-! ### Comment -/
theorem comment_l0 {s : ByteArray} (hs : s.size ≤ 70368744177664) : ∀ (N : Nat) (l : List UInt8) (d n : Nat), l.length ≤ N → (L s).drop n = l → n ≤ s.size → 1 ≤ d → d ≤ 8 →
    Ev (fun k => text_Comment.l0 k s (d : Int) (n : Int)) (res2 (cmL l d n)) := by
  intro N
  induction N with
  | zero =>
    intro l d n h hd hn h1 h8
    obtain rfl : l = [] := List.eq_nil_of_length_eq_zero (by omega)
    have := drop_end hd
    exact Ev.eq (f := fun _ => some _) (fun k => by simp only [text_Comment.l0]; rw [if_neg (by omega), cm_nil]; rfl) (Ev.pure _)
  | succ N ih =>
    intro l d n h hd hn h1 h8
    cases l with
    | nil =>
      have := drop_end hd
      exact Ev.eq (f := fun _ => some _) (fun k => by simp only [text_Comment.l0]; rw [if_neg (by omega), cm_nil]; rfl) (Ev.pure _)
    | cons c l =>
      have hlt := drop_lt hd
      have hb := bt_of hd
      have h2 := drop_next hd
      have hsz := drop_size hd hn
      simp only [List.length_cons] at h hsz
      have ew := w1 hlt (by omega)
      have ed := w1 (n := d) (m := 10) (by omega) (by omega)
      have em : wrap64 ((d : Int) - 1) = ((d - 1 : Nat) : Int) := by rw [wk (by omega) (by omega)]; omega
      by_cases c1 : c = 40
      · by_cases hd8 : 8 < d + 1
        · refine Ev.eq (f := fun _ => some _) (fun k => ?_) (Ev.pure _)
          simp only [text_Comment.l0]
          rw [if_pos (by omega), if_pos (by omega), hb, if_pos (by rw [c1]; rfl), ed, if_pos (by omega), c1, cm_open, if_pos hd8]
          rfl
        · refine Ev.eq (f := fun k => text_Comment.l0 k s ((d + 1 : Nat) : Int) ((n + 1 : Nat) : Int)) (fun k => ?_) ?_
          · simp only [text_Comment.l0]
            rw [if_pos (by omega), if_pos (by omega), hb, if_pos (by rw [c1]; rfl), ed, if_neg (by omega), ew]
          · rw [c1, cm_open, if_neg hd8]
            exact ih l (d + 1) (n + 1) (by omega) h2 (by omega) (by omega) (by omega)
      · have c1' : ¬ (c.toNat : Int) = 40 := fun e => c1 ((c_eq c 40).1 e)
        by_cases c2 : c = 41
        · have c2' : (c.toNat : Int) = 41 := by rw [c2]; rfl
          by_cases hd1 : d = 1
          · refine Ev.eq (f := fun _ => some _) (fun k => ?_) (Ev.pure _)
            simp only [text_Comment.l0]
            rw [if_pos (by omega), if_pos (by omega), hb, if_neg c1', if_pos c2', em, if_pos (by omega), ew, c2, cm_close, if_pos hd1]
            rfl
          · refine Ev.eq (f := fun k => text_Comment.l0 k s ((d - 1 : Nat) : Int) ((n + 1 : Nat) : Int)) (fun k => ?_) ?_
            · simp only [text_Comment.l0]
              rw [if_pos (by omega), if_pos (by omega), hb, if_neg c1', if_pos c2', em, if_neg (by omega), ew]
            · rw [c2, cm_close, if_neg hd1]
              exact ih l (d - 1) (n + 1) (by omega) h2 (by omega) (by omega) (by omega)
        · have c2' : ¬ (c.toNat : Int) = 41 := fun e => c2 ((c_eq c 41).1 e)
          by_cases c3 : c = 92
          · have c3' : (c.toNat : Int) = 92 := by rw [c3]; rfl
            cases l with
            | nil =>
              refine Ev.eq (f := fun _ => some _) (fun k => ?_) (Ev.pure _)
              simp only [text_Comment.l0]
              rw [if_pos (by omega), if_pos (by omega), hb, if_neg c1', if_neg c2', if_pos c3', pair_f hs hd, c3, cm_back]
              rfl
            | cons e l =>
              simp only [List.length_cons] at h hsz
              have ew2 := Lib.hid (w1 (n := n + 1) (m := s.size) (by omega) (by omega))
              by_cases c4 : plC e
              · refine Ev.eq (f := fun k => text_Comment.l0 k s (d : Int) ((n + 2 : Nat) : Int)) (fun k => ?_) ?_
                · simp only [text_Comment.l0]
                  rw [if_pos (by omega), if_pos (by omega), hb, if_neg c1', if_neg c2', if_pos c3', pair_f hs hd, ew, ew2.out]
                  simp only [pairL, c4, if_true, Option.bind_some]
                · rw [c3, cm_pair, if_pos c4]
                  exact ih l d (n + 2) (by omega) (drop_next h2) (by omega) (by omega) (by omega)
              · refine Ev.eq (f := fun _ => some _) (fun k => ?_) (Ev.pure _)
                simp only [text_Comment.l0]
                rw [if_pos (by omega), if_pos (by omega), hb, if_neg c1', if_neg c2', if_pos c3', pair_f hs hd, c3, cm_pair, if_neg c4]
                simp only [pairL, c4]; rfl
          · have c3' : ¬ (c.toNat : Int) = 92 := fun e => c3 ((c_eq c 92).1 e)
            by_cases c4 : c = 9
            · have c4' : (c.toNat : Int) = 9 := by rw [c4]; rfl
              refine Ev.eq (f := fun k => text_Comment.l0 k s (d : Int) ((n + 1 : Nat) : Int)) (fun k => ?_) ?_
              · simp only [text_Comment.l0]
                rw [if_pos (by omega), if_pos (by omega), hb, if_neg c1', if_neg c2', if_neg c3', if_pos c4', ew]
              · rw [c4, cm_tab]
                exact ih l d (n + 1) (by omega) h2 (by omega) (by omega) (by omega)
            · have c4' : ¬ (c.toNat : Int) = 9 := fun e => c4 ((c_eq c 9).1 e)
              by_cases c5 : plC c
              · refine Ev.eq (f := fun k => text_Comment.l0 k s (d : Int) ((n + 1 : Nat) : Int)) (fun k => ?_) ?_
                · simp only [text_Comment.l0]
                  rw [if_pos (by omega), if_pos (by omega), hb, if_neg c1', if_neg c2', if_neg c3', if_neg c4', plain_f, ew]
                  simp only [c5, if_true, Option.bind_some]
                · rw [cm_else c1 c2 c3 c4, if_pos c5]
                  exact ih l d (n + 1) (by omega) h2 (by omega) (by omega) (by omega)
              · refine Ev.eq (f := fun _ => some _) (fun k => ?_) (Ev.pure _)
                simp only [text_Comment.l0]
                rw [if_pos (by omega), if_pos (by omega), hb, if_neg c1', if_neg c2', if_neg c3', if_neg c4', plain_f, cm_else c1 c2 c3 c4, if_neg c5]
                simp only [c5, Option.bind_some]; rfl
theorem comment_f {s : ByteArray} (hs : s.size ≤ 70368744177664) : Ev (fun k => text_Comment.f k s) (res2 (cm (L s))) := by
  cases hl : L s with
  | nil =>
    have h0 : s.toList = ([] : List UInt8) := by rw [toL, hl]
    refine Ev.eq (f := fun _ => some _) (fun k => ?_) (Ev.pure _)
    unfold text_Comment.f
    rw [if_pos h0]; simp only [text_Comment.j0, if_true]; rfl
  | cons c l =>
    have h0 : ¬ s.toList = ([] : List UInt8) := by rw [toL, hl]; simp
    have hd : (L s).drop 0 = c :: l := hl
    have hb := bt_of hd
    have hlt := drop_lt hd
    have hsz := drop_size hd (by omega)
    simp only [List.length_cons] at hsz
    by_cases c1 : c = 40
    · refine Ev.eq (f := fun k => text_Comment.l0 k s 0 ((0 : Nat) : Int)) (fun k => ?_) ?_
      · unfold text_Comment.f
        rw [if_neg h0, if_pos (by omega), show bt s 0 = bt s ((0 : Nat) : Int) from rfl, hb, c1]
        simp only [text_Comment.j0]; rfl
      · refine Ev.eq (f := fun k => text_Comment.l0 k s ((1 : Nat) : Int) ((1 : Nat) : Int)) (fun k => ?_) ?_
        · simp only [text_Comment.l0]
          rw [if_pos (by omega), if_pos (by omega), hb, if_pos (by rw [c1]; rfl), wk (by omega) (by omega), wk (by omega) (by omega), if_neg (by omega)]
          rfl
        · have := comment_l0 hs l.length l 1 1 (Nat.le_refl _) (drop_next hd) (by omega) (by omega) (by omega)
          simpa [cm, c1] using this
    · refine Ev.eq (f := fun _ => some _) (fun k => ?_) (Ev.pure _)
      unfold text_Comment.f
      have c1' : ((c.toNat : Int) != 40) = true := bne_iff_ne.mpr (fun e => c1 ((c_eq c 40).1 e))
      rw [if_neg h0, if_pos (by omega), show (0 : Int) = ((0 : Nat) : Int) from rfl, hb, c1']
      simp [text_Comment.j0, cm, c1, res2]
/-! ### Blank -/
theorem bl_nil (n : Nat) : blL [] n = (n, 0) := by rw [blL]
theorem bl_sp (l : List UInt8) (n : Nat) : blL (32 :: l) n = blL l (n + 1) := by rw [blL]; simp
theorem bl_tab (l : List UInt8) (n : Nat) : blL (9 :: l) n = blL l (n + 1) := by rw [blL]; simp
theorem bl_com (l : List UInt8) (n : Nat) : blL (40 :: l) n = if (cm (40 :: l)).2 = 0 then blL (l.drop ((cm (40 :: l)).1 - 1)) (n + (cm (40 :: l)).1) else (0, (cm (40 :: l)).2) := by rw [blL]; simp
theorem bl_else {c : UInt8} (h1 : ¬ c = 32) (h2 : ¬ c = 9) (h3 : ¬ c = 40) (l : List UInt8) (n : Nat) : blL (c :: l) n = (n, 0) := by rw [blL]; simp [h1, h2, h3]
theorem drop_com {α : Type} {L : List α} {n m : Nat} {c : α} {l : List α} (h : L.drop n = c :: l) (hm : 1 ≤ m) : L.drop (n + m) = l.drop (m - 1) := by
  rw [← drop_next h, List.drop_drop]; congr 1; omega
theorem blank_l0 {s : ByteArray} (hs : s.size ≤ 70368744177664) : ∀ (N : Nat) (l : List UInt8) (n : Nat), l.length ≤ N → (L s).drop n = l → n ≤ s.size → Ev (fun k => text_Blank.l0 k s (n : Int)) (res2 (blL l n)) := by
  intro N
  induction N with
  | zero =>
    intro l n h hd hn
    obtain rfl : l = [] := List.eq_nil_of_length_eq_zero (by omega)
    have := drop_end hd
    exact Ev.eq (f := fun _ => some _) (fun k => by simp only [text_Blank.l0]; rw [if_neg (by omega), bl_nil]; rfl) (Ev.pure _)
  | succ N ih =>
    intro l n h hd hn
    cases l with
    | nil =>
      have := drop_end hd
      exact Ev.eq (f := fun _ => some _) (fun k => by simp only [text_Blank.l0]; rw [if_neg (by omega), bl_nil]; rfl) (Ev.pure _)
    | cons c l =>
      have hlt := drop_lt hd
      have hb := bt_of hd
      have h2 := drop_next hd
      have hsz := drop_size hd hn
      simp only [List.length_cons] at h hsz
      have ew := w1 hlt (by omega)
      by_cases c1 : c = 32
      · refine Ev.eq (f := fun k => text_Blank.j1 k s (n : Int) (c.toNat : Int) true) (fun k => ?_) (Ev.eq (f := fun k => text_Blank.l0 k s ((n + 1 : Nat) : Int)) (fun k => ?_) ?_)
        · simp only [text_Blank.l0]
          rw [if_pos (by omega), if_pos (by omega), hb, if_pos (by rw [c1]; rfl), c1]; rfl
        · simp only [text_Blank.j1, if_true]; rw [ew]
        · rw [c1, bl_sp]; exact ih l (n + 1) (by omega) h2 (by omega)
      · have c1' : ¬ (c.toNat : Int) = 32 := fun e => c1 ((c_eq c 32).1 e)
        by_cases c2 : c = 9
        · refine Ev.eq (f := fun k => text_Blank.j1 k s (n : Int) (c.toNat : Int) true) (fun k => ?_) (Ev.eq (f := fun k => text_Blank.l0 k s ((n + 1 : Nat) : Int)) (fun k => ?_) ?_)
          · simp only [text_Blank.l0]
            rw [if_pos (by omega), if_pos (by omega), hb, if_neg c1', c2]; rfl
          · simp only [text_Blank.j1, if_true]; rw [ew]
          · rw [c2, bl_tab]; exact ih l (n + 1) (by omega) h2 (by omega)
        · have c2' : ((c.toNat : Int) == 9) = false := beq_eq_false_iff_ne.mpr (fun e => c2 ((c_eq c 9).1 e))
          have hj : ∀ k, text_Blank.l0 (k + 1) s (n : Int) = text_Blank.j1 k s (n : Int) (c.toNat : Int) false := by
            intro k
            simp only [text_Blank.l0]
            rw [if_pos (by omega), if_pos (by omega), hb, if_neg c1', c2']
          refine Ev.eq hj ?_
          by_cases c3 : c = 40
          · have hx : L (s.extract n s.size) = c :: l := by rw [L_ext_end, hd]
            have hcm := cm_le (c :: l)
            simp only [List.length_cons] at hcm
            have hcf := comment_f (s := s.extract n s.size) (by have := ByteArray.size_extract (a := s) (b := n) (e := s.size); omega)
            rw [hx] at hcf
            refine Ev.eq (f := fun k => (text_Comment.f k (s.extract n s.size)).bind fun bt124 => if bt124.2 = 0 then text_Blank.l0 k s (wrap64 ((n : Int) + bt124.1)) else some (0, bt124.2)) (fun k => ?_) (Ev.bind2 hcf ?_)
            · simp only [text_Blank.j1]
              rw [if_neg (by decide), if_pos (by rw [c3]; rfl), if_pos (by omega), if_pos (by omega), Int.toNat_natCast]
            · rw [c3, bl_com, ← c3]
              by_cases h0 : (cm (c :: l)).2 = 0
              · have hz : (res2 (cm (c :: l))).2 = 0 := by unfold res2; simp only; omega
                simp only [hz, if_true]
                rw [if_pos h0]
                have e1 : wrap64 ((n : Int) + (res2 (cm (c :: l))).1) = ((n + (cm (c :: l)).1 : Nat) : Int) := by
                  unfold res2; simp only; rw [wk (by omega) (by omega)]; omega
                rw [e1]
                exact ih (l.drop ((cm (c :: l)).1 - 1)) (n + (cm (c :: l)).1) (by rw [List.length_drop]; omega) (drop_com hd (by omega)) (by omega)
              · have hz : ¬ (res2 (cm (c :: l))).2 = 0 := by unfold res2; simp only; omega
                simp only [hz, if_false]
                rw [if_neg h0]
                exact Ev.pure _
          · refine Ev.eq (f := fun _ => some _) (fun k => ?_) (Ev.pure _)
            simp only [text_Blank.j1]
            rw [if_neg (by decide), if_neg (show ¬ (c.toNat : Int) = 40 from fun e => c3 ((c_eq c 40).1 e)), bl_else c1 c2 c3]
            rfl
theorem blank_f {s : ByteArray} (hs : s.size ≤ 70368744177664) : Ev (fun k => text_Blank.f k s) (res2 (blL (L s) 0)) := blank_l0 hs (L s).length (L s) 0 (Nat.le_refl _) rfl (by omega)
end Go.Proofs.YtfeihligcondgaaDoor.S
