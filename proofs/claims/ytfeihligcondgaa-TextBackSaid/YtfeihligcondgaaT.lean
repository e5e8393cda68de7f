/- What the text layer's functions, and the document's, come to: the plain functions of S. -/
import Derived.Test.YtfeihligcondgaaS
import Derived.Test.YtfeihligcondgaaQx4
namespace Go.Proofs.Ytfeihligcondgaa.S
open Go.RowKit Go.Proofs.Ytfeihligcondgaa.Q Go.Proofs.YtfeihligcondgaaW.PrintWords Go.Proofs.YtfeihligcondgaaW.PrintLast Go.Proofs.YtfeihligcondgaaW.PrintMore
set_option linter.unusedVariables false
set_option linter.unusedSimpArgs false
def nm (l : List UInt8) : List Int := l.map fun c => (c.toNat : Int)
theorem nm_len (l : List UInt8) : (nm l).length = l.length := by simp [nm]
theorem nm_snoc (l : List UInt8) (c : UInt8) : nm l ++ [(c.toNat : Int)] = nm (l ++ [c]) := by simp [nm]
theorem str_nm (l : List UInt8) : strOfNums (nm l) = B l := by simp [strOfNums, nm, B, Function.comp_def]
def res3 (x : List UInt8 × Nat × Nat) : ByteArray × Int × Int := (B x.1, (x.2.1 : Int), (x.2.2 : Int))
def res2 (x : Nat × Nat) : Int × Int := ((x.1 : Int), (x.2 : Int))
theorem plain_f (c : UInt8) : text_plain.f (c.toNat : Int) = some (plC c) := by
  unfold text_plain.f plC
  by_cases h : 32 ≤ c.toNat
  · rw [if_pos (by omega)]; simp [h]; omega
  · rw [if_neg (by omega)]; simp [h]
theorem ref_plain_f (c : UInt8) : postriderref04_plain.f (c.toNat : Int) = some (plC c) := plain_f c
def pairL : List UInt8 → Option (Int × Int)
  | [] => some (0, 4)
  | d :: _ => if plC d then some ((d.toNat : Int), 0) else some (0, 5)
theorem pair_f {s : ByteArray} (hs : s.size ≤ 70368744177664) {n : Nat} {c : UInt8} {l : List UInt8} (h : (L s).drop n = c :: l) :
    text_pair.f s (n : Int) = pairL l := by
  have hlt := drop_lt h
  have hsz := drop_size h (by omega)
  have h2 := drop_next h
  unfold text_pair.f
  rw [w1 hlt (by omega)]
  cases l with
  | nil => simp only [List.length_cons, List.length_nil] at hsz; rw [if_pos (by omega)]; rfl
  | cons d l =>
    simp only [List.length_cons] at hsz
    rw [if_neg (by omega), if_pos (by omega), if_pos (by omega), bt_of h2, plain_f]
    simp only [Option.bind_some, pairL]
theorem quoted_l0 {s : ByteArray} (hs : s.size ≤ 70368744177664) : ∀ (N : Nat) (l out : List UInt8) (n : Nat), l.length ≤ N → (L s).drop n = l → n ≤ s.size → out.length ≤ n →
    Ev (fun k => text_Quoted.l0 k s (nm out) (n : Int)) (res3 (qdL l out n)) := by
  intro N
  induction N with
  | zero =>
    intro l out n h hd hn ho
    obtain rfl : l = [] := List.eq_nil_of_length_eq_zero (by omega)
    have := drop_end hd
    exact Ev.eq (f := fun _ => some _) (fun k => by simp only [text_Quoted.l0]; rw [if_neg (by omega)]; rfl) (Ev.pure _)
  | succ N ih =>
    intro l out n h hd hn ho
    cases l with
    | nil =>
      have := drop_end hd
      exact Ev.eq (f := fun _ => some _) (fun k => by simp only [text_Quoted.l0]; rw [if_neg (by omega)]; rfl) (Ev.pure _)
    | cons c l =>
      have hlt := drop_lt hd
      have hb := bt_of hd
      have h2 := drop_next hd
      have hsz := drop_size hd hn
      simp only [List.length_cons] at h hsz
      have ew := w1 hlt (by omega)
      by_cases c1 : c = 34
      · refine Ev.eq (f := fun _ => some _) (fun k => ?_) (Ev.pure _)
        simp only [text_Quoted.l0]
        rw [if_pos (by omega), if_pos (by omega), hb, if_pos (by rw [c1]; rfl), ew, str_nm, c1, qd_end]
        rfl
      · have c1' : ¬ (c.toNat : Int) = 34 := fun e => c1 ((c_eq c 34).1 e)
        by_cases c2 : c = 92
        · have c2' : (c.toNat : Int) = 92 := by rw [c2]; rfl
          cases l with
          | nil =>
            refine Ev.eq (f := fun _ => some _) (fun k => ?_) (Ev.pure _)
            simp only [text_Quoted.l0]
            rw [if_pos (by omega), if_pos (by omega), hb, if_neg c1', if_pos c2', pair_f hs hd]
            rw [c2, qd_back]
            rfl
          | cons d l =>
            simp only [List.length_cons] at h hsz
            by_cases c3 : plC d
            · refine Ev.eq (f := fun k => text_Quoted.l0 k s (nm (out ++ [d])) ((n + 2 : Nat) : Int)) (fun k => ?_) ?_
              · simp only [text_Quoted.l0]
                rw [if_pos (by omega), if_pos (by omega), hb, if_neg c1', if_pos c2', pair_f hs hd]
                simp only [pairL, c3, if_true, Option.bind_some]
                rw [if_pos (by rw [nm_len]; omega), nm_snoc, ew, w1 (m := s.size) (by omega) (by omega)]
              · have := ih l (out ++ [d]) (n + 2) (by omega) (drop_next h2) (by omega) (by simp; omega)
                rw [c2, qd_pair, if_pos c3]; exact this
            · refine Ev.eq (f := fun _ => some _) (fun k => ?_) (Ev.pure _)
              simp only [text_Quoted.l0]
              rw [if_pos (by omega), if_pos (by omega), hb, if_neg c1', if_pos c2', pair_f hs hd]
              rw [c2, qd_pair, if_neg c3]; simp only [pairL, c3]; rfl
        · have c2' : ¬ (c.toNat : Int) = 92 := fun e => c2 ((c_eq c 92).1 e)
          by_cases c3 : plC c
          · refine Ev.eq (f := fun k => text_Quoted.l0 k s (nm (out ++ [c])) ((n + 1 : Nat) : Int)) (fun k => ?_) ?_
            · simp only [text_Quoted.l0]
              rw [if_pos (by omega), if_pos (by omega), hb, if_neg c1', if_neg c2', plain_f]
              simp only [c3, if_true, Option.bind_some]
              rw [if_pos (by rw [nm_len]; omega), nm_snoc, ew]
            · have := ih l (out ++ [c]) (n + 1) (by omega) h2 (by omega) (by simp; omega)
              rw [qd_else c1 c2, if_pos c3]; exact this
          · refine Ev.eq (f := fun _ => some _) (fun k => ?_) (Ev.pure _)
            simp only [text_Quoted.l0]
            rw [if_pos (by omega), if_pos (by omega), hb, if_neg c1', if_neg c2', plain_f]
            rw [qd_else c1 c2, if_neg c3]; simp only [c3, Option.bind_some]; rfl
theorem quoted_f {s : ByteArray} (hs : s.size ≤ 70368744177664) : Ev (fun k => text_Quoted.f k s) (res3 (qd (L s))) := by
  cases hl : L s with
  | nil =>
    have h0 : s.toList = ([] : List UInt8) := by rw [toL, hl]
    refine Ev.eq (f := fun _ => some _) (fun k => ?_) (Ev.pure _)
    unfold text_Quoted.f
    rw [if_pos h0]; simp only [text_Quoted.j0, if_true]; rfl
  | cons c l =>
    have h0 : ¬ s.toList = ([] : List UInt8) := by rw [toL, hl]; simp
    have hd : (L s).drop 0 = c :: l := hl
    have hb := bt_of hd
    have hlt := drop_lt hd
    have hsz := drop_size hd (by omega)
    simp only [List.length_cons] at hsz
    by_cases c1 : c = 34
    · refine Ev.eq (f := fun k => text_Quoted.l0 k s (nm []) ((1 : Nat) : Int)) (fun k => ?_) ?_
      · unfold text_Quoted.f
        rw [if_neg h0, if_pos (by omega), show (0 : Int) = ((0 : Nat) : Int) from rfl, hb, c1]
        simp only [text_Quoted.j0]; rfl
      · have := quoted_l0 hs l.length l [] 1 (Nat.le_refl _) (drop_next hd) (by omega) (by simp)
        simpa [qd, c1] using this
    · refine Ev.eq (f := fun _ => some _) (fun k => ?_) (Ev.pure _)
      unfold text_Quoted.f
      have c1' : ((c.toNat : Int) != 34) = true := bne_iff_ne.mpr (fun e => c1 ((c_eq c 34).1 e))
      rw [if_neg h0, if_pos (by omega), show (0 : Int) = ((0 : Nat) : Int) from rfl, hb, c1']
      simp [text_Quoted.j0, qd, c1, res3, B]
theorem ref_quoted_l0 {s : ByteArray} (hs : s.size ≤ 70368744177664) : ∀ (N : Nat) (l out : List UInt8) (n : Nat), l.length ≤ N → (L s).drop n = l → n ≤ s.size → out.length ≤ n →
    Ev (fun k => postriderref04_Quoted.l0 k s (B out) (n : Int)) (res3 (qdL l out n)) := by
  intro N
  induction N with
  | zero =>
    intro l out n h hd hn ho
    obtain rfl : l = [] := List.eq_nil_of_length_eq_zero (by omega)
    have := drop_end hd
    exact Ev.eq (f := fun _ => some _) (fun k => by simp only [postriderref04_Quoted.l0]; rw [if_neg (by omega)]; rfl) (Ev.pure _)
  | succ N ih =>
    intro l out n h hd hn ho
    cases l with
    | nil =>
      have := drop_end hd
      exact Ev.eq (f := fun _ => some _) (fun k => by simp only [postriderref04_Quoted.l0]; rw [if_neg (by omega)]; rfl) (Ev.pure _)
    | cons c l =>
      have hlt := drop_lt hd
      have hb := bt_of hd
      have h2 := drop_next hd
      have hsz := drop_size hd hn
      simp only [List.length_cons] at h hsz
      have ew := w1 hlt (by omega)
      by_cases c1 : c = 34
      · refine Ev.eq (f := fun _ => some _) (fun k => ?_) (Ev.pure _)
        simp only [postriderref04_Quoted.l0]
        rw [if_pos (by omega), if_pos (by omega), hb, if_pos (by rw [c1]; rfl), ew, c1, qd_end]
        rfl
      · have c1' : ¬ (c.toNat : Int) = 34 := fun e => c1 ((c_eq c 34).1 e)
        by_cases c2 : c = 92
        · have c2' : (c.toNat : Int) = 92 := by rw [c2]; rfl
          cases l with
          | nil =>
            refine Ev.eq (f := fun _ => some _) (fun k => ?_) (Ev.pure _)
            simp only [List.length_nil] at hsz
            simp only [postriderref04_Quoted.l0]
            rw [if_pos (by omega), if_pos (by omega), hb, if_neg c1', if_pos c2', ew, if_pos (by omega), c2, qd_back]
            rfl
          | cons d l =>
            simp only [List.length_cons] at h hsz
            have hb2 := bt_of h2
            have hc2 : s.extract (n + 1) (n + 2) = B [d] := cut1 h2
            have ew2 := Lib.hid (w1 (n := n + 1) (m := s.size) (by omega) (by omega))
            by_cases c3 : plC d
            · refine Ev.eq (f := fun k => postriderref04_Quoted.l0 k s (B (out ++ [d])) ((n + 2 : Nat) : Int)) (fun k => ?_) ?_
              · simp only [postriderref04_Quoted.l0]
                rw [if_pos (by omega), if_pos (by omega), hb, if_neg c1', if_pos c2', ew, if_neg (by omega), if_pos (by omega), if_pos (by omega), hb2, ref_plain_f, ew2.out]
                simp only [c3, if_true, Option.bind_some, Int.toNat_natCast]
                rw [show n + 1 + 1 = n + 2 from rfl]
                rw [if_pos (by omega), if_pos (by omega), hc2, if_pos (by rw [B_size, B_size]; simp only [List.length_singleton]; omega), B_app]
              · have := ih l (out ++ [d]) (n + 2) (by omega) (drop_next h2) (by omega) (by simp; omega)
                rw [c2, qd_pair, if_pos c3]; exact this
            · refine Ev.eq (f := fun _ => some _) (fun k => ?_) (Ev.pure _)
              simp only [postriderref04_Quoted.l0]
              rw [if_pos (by omega), if_pos (by omega), hb, if_neg c1', if_pos c2', ew, if_neg (by omega), if_pos (by omega), if_pos (by omega), hb2, ref_plain_f]
              rw [c2, qd_pair, if_neg c3]; simp only [c3, Option.bind_some]; rfl
        · have c2' : ¬ (c.toNat : Int) = 92 := fun e => c2 ((c_eq c 92).1 e)
          by_cases c3 : plC c
          · refine Ev.eq (f := fun k => postriderref04_Quoted.l0 k s (B (out ++ [c])) ((n + 1 : Nat) : Int)) (fun k => ?_) ?_
            · simp only [postriderref04_Quoted.l0]
              rw [if_pos (by omega), if_pos (by omega), hb, if_neg c1', if_neg c2', ref_plain_f, ew]
              simp only [c3, if_true, Option.bind_some, Int.toNat_natCast]
              rw [if_pos (by omega), if_pos (by omega), cut1 hd, if_pos (by rw [B_size, B_size]; simp only [List.length_singleton]; omega), B_app]
            · have := ih l (out ++ [c]) (n + 1) (by omega) h2 (by omega) (by simp; omega)
              rw [qd_else c1 c2, if_pos c3]; exact this
          · refine Ev.eq (f := fun _ => some _) (fun k => ?_) (Ev.pure _)
            simp only [postriderref04_Quoted.l0]
            rw [if_pos (by omega), if_pos (by omega), hb, if_neg c1', if_neg c2', ref_plain_f]
            rw [qd_else c1 c2, if_neg c3]; simp only [c3, Option.bind_some]; rfl
theorem ref_quoted_f {s : ByteArray} (hs : s.size ≤ 70368744177664) : Ev (fun k => postriderref04_Quoted.f k s) (res3 (qd (L s))) := by
  cases hl : L s with
  | nil =>
    have h0 : (s.size : Int) = 0 := by rw [← L_len, hl]; rfl
    refine Ev.eq (f := fun _ => some _) (fun k => ?_) (Ev.pure _)
    unfold postriderref04_Quoted.f
    rw [if_pos h0]; simp only [postriderref04_Quoted.j0, if_true]; rfl
  | cons c l =>
    have hd : (L s).drop 0 = c :: l := hl
    have hb := bt_of hd
    have hlt := drop_lt hd
    have hsz := drop_size hd (by omega)
    simp only [List.length_cons] at hsz
    have h0 : ¬ (s.size : Int) = 0 := by omega
    by_cases c1 : c = 34
    · refine Ev.eq (f := fun k => postriderref04_Quoted.l0 k s (B []) ((1 : Nat) : Int)) (fun k => ?_) ?_
      · unfold postriderref04_Quoted.f
        rw [if_neg h0, if_pos (by omega), show (0 : Int) = ((0 : Nat) : Int) from rfl, hb, c1]
        simp only [postriderref04_Quoted.j0]; rfl
      · have := ref_quoted_l0 hs l.length l [] 1 (Nat.le_refl _) (drop_next hd) (by omega) (by simp)
        simpa [qd, c1] using this
    · refine Ev.eq (f := fun _ => some _) (fun k => ?_) (Ev.pure _)
      unfold postriderref04_Quoted.f
      have c1' : ((c.toNat : Int) != 34) = true := bne_iff_ne.mpr (fun e => c1 ((c_eq c 34).1 e))
      rw [if_neg h0, if_pos (by omega), show (0 : Int) = ((0 : Nat) : Int) from rfl, hb, c1']
      simp [postriderref04_Quoted.j0, qd, c1, res3, B]
/-! ### Quote -/
theorem plainB_eq (s : ByteArray) : plainB s = (L s).all plC := rfl
theorem quoteM_eq (l : List UInt8) : quoteM l = qtM l := rfl
theorem quoteB_eq (s : ByteArray) : quoteB s = B (34 :: (qtM (L s) ++ [34])) := rfl
theorem quote_f {s : ByteArray} (hs : s.size ≤ 70368744177000 - 1) : text_Quote.f s = some (if (L s).all plC then (B (34 :: (qtM (L s) ++ [34])), 0) else (B [], 5)) := by
  unfold text_Quote.f
  rw [if_pos (by omega), plainB_eq, quoteB_eq]
  by_cases h : (L s).all plC
  · rw [if_pos h, if_pos h]
  · rw [if_neg h, if_neg h]; rfl
theorem ref_plain_l0 {s : ByteArray} (hs : s.size ≤ 70368744177664) : ∀ (l : List UInt8) (n : Nat), (L s).drop n = l → n ≤ s.size → Ev (fun k => postriderref04_Plain.l0 k s (n : Int)) (l.all plC) := by
  intro l
  induction l with
  | nil =>
    intro n hd hn
    have := drop_end hd
    exact Ev.eq (f := fun _ => some _) (fun k => by simp only [postriderref04_Plain.l0]; rw [if_neg (by omega)]; rfl) (Ev.pure _)
  | cons c l ih =>
    intro n hd hn
    have hlt := drop_lt hd
    have hb := bt_of hd
    have ew := w1 hlt (by omega)
    by_cases c1 : plC c
    · refine Ev.eq (f := fun k => postriderref04_Plain.l0 k s ((n + 1 : Nat) : Int)) (fun k => ?_) ?_
      · simp only [postriderref04_Plain.l0]
        rw [if_pos (by omega), if_pos (by omega), hb, ref_plain_f, ew]
        simp only [Option.bind_some, c1, if_true]
      · have := ih (n + 1) (drop_next hd) (by omega)
        simpa [c1] using this
    · refine Ev.eq (f := fun _ => some _) (fun k => ?_) (Ev.pure _)
      simp only [postriderref04_Plain.l0]
      rw [if_pos (by omega), if_pos (by omega), hb, ref_plain_f]
      simp [c1]
theorem ref_quote_l0 {s : ByteArray} (hs : s.size ≤ 70368744177000) : ∀ (l out : List UInt8) (n : Nat), (L s).drop n = l → n ≤ s.size → out.length ≤ 2 * n + 1 →
    Ev (fun k => postriderref04_Quote.l0 k s (B out) (n : Int)) (B (out ++ (qtM l ++ [34])), 0) := by
  intro l
  induction l with
  | nil =>
    intro out n hd hn ho
    have := drop_end hd
    refine Ev.eq (f := fun _ => some _) (fun k => ?_) (Ev.pure _)
    simp only [postriderref04_Quote.l0]
    rw [if_neg (by omega), if_pos (by rw [B_size]; omega), show (⟨#[34]⟩ : ByteArray) = B [34] from rfl, B_app]
    rfl
  | cons c l ih =>
    intro out n hd hn ho
    have hlt := drop_lt hd
    have hb := bt_of hd
    have ew := w1 hlt (by omega)
    have hc := cut1 hd
    by_cases c1 : c = 34 ∨ c = 92
    · have e : qtM (c :: l) = [92, c] ++ qtM l := by simp [qtM, qtC, c1]
      refine Ev.eq (f := fun k => postriderref04_Quote.l0 k s (B (out ++ [92] ++ [c])) ((n + 1 : Nat) : Int)) (fun k => ?_) ?_
      · simp only [postriderref04_Quote.l0]
        by_cases c2 : c = 34
        · rw [if_pos (by omega), if_pos (by omega), hb, if_pos (show (c.toNat : Int) = 34 by rw [c2]; rfl), ew, if_pos (by rw [B_size]; omega), if_pos (by omega), if_pos (by omega)]
          simp only [Int.toNat_natCast]
          rw [hc, show (⟨#[92]⟩ : ByteArray) = B [92] from rfl, B_app, if_pos (by rw [B_size, B_size]; simp; omega), B_app]
        · rw [if_pos (by omega), if_pos (by omega), hb, if_neg (show ¬ (c.toNat : Int) = 34 from fun h => c2 ((c_eq c 34).1 h)), if_pos (show (c.toNat : Int) = 92 by rw [c1.resolve_left c2]; rfl), ew, if_pos (by rw [B_size]; omega), if_pos (by omega), if_pos (by omega)]
          simp only [Int.toNat_natCast]
          rw [hc, show (⟨#[92]⟩ : ByteArray) = B [92] from rfl, B_app, if_pos (by rw [B_size, B_size]; simp; omega), B_app]
      · have := ih (out ++ [92] ++ [c]) (n + 1) (drop_next hd) (by omega) (by simp; omega)
        rw [e]; simpa using this
    · have e : qtM (c :: l) = [c] ++ qtM l := by simp [qtM, qtC, c1]
      refine Ev.eq (f := fun k => postriderref04_Quote.l0 k s (B (out ++ [c])) ((n + 1 : Nat) : Int)) (fun k => ?_) ?_
      · simp only [postriderref04_Quote.l0]
        rw [if_pos (by omega), if_pos (by omega), hb, if_neg (show ¬ (c.toNat : Int) = 34 from fun h => c1 (.inl ((c_eq c 34).1 h))), if_neg (show ¬ (c.toNat : Int) = 92 from fun h => c1 (.inr ((c_eq c 92).1 h))), ew, if_pos (by omega), if_pos (by omega)]
        simp only [Int.toNat_natCast]
        rw [hc, if_pos (by rw [B_size, B_size]; simp; omega), B_app]
      · have := ih (out ++ [c]) (n + 1) (drop_next hd) (by omega) (by simp; omega)
        rw [e]; simpa using this
theorem ref_plain_F {s : ByteArray} (hs : s.size ≤ 70368744177664) : Ev (fun k => postriderref04_Plain.f k s) ((L s).all plC) := ref_plain_l0 hs (L s) 0 rfl (by omega)
theorem ref_quote_f {s : ByteArray} (hs : s.size ≤ 70368744177000) : Ev (fun k => postriderref04_Quote.f k s) (if (L s).all plC then (B (34 :: (qtM (L s) ++ [34])), 0) else (B [], 5)) := by
  unfold postriderref04_Quote.f
  refine Ev.bind2 (ref_plain_F (by omega)) ?_
  by_cases h : (L s).all plC
  · rw [if_pos h]
    simp only [h, if_true]
    exact ref_quote_l0 hs (L s) [34] 0 rfl (by omega) (by simp)
  · rw [if_neg h]
    simp only [h]
    exact Ev.pure _
/-! ### Comment -/
theorem comment_l0 {s : ByteArray} (hs : s.size ≤ 70368744177664) : ∀ (N : Nat) (l : List UInt8) (d n : Nat), l.length ≤ N → (L s).drop n = l → n ≤ s.size → 1 ≤ d → d ≤ 8 →
    Ev (fun k => text_Comment.l0 k s (d : Int) (n : Int)) (res2 (cmL l d n)) := by
  intro N
  induction N with
  | zero =>
    intro l d n h hd hn h1 h8
    obtain rfl : l = [] := List.eq_nil_of_length_eq_zero (by omega)
    have := drop_end hd
    exact Ev.eq (f := fun _ => some _) (fun k => by simp only [text_Comment.l0]; rw [if_neg (by omega), cm_nil]; rfl) (Ev.pure _)
  | succ N ih =>
    intro l d n h hd hn h1 h8
    cases l with
    | nil =>
      have := drop_end hd
      exact Ev.eq (f := fun _ => some _) (fun k => by simp only [text_Comment.l0]; rw [if_neg (by omega), cm_nil]; rfl) (Ev.pure _)
    | cons c l =>
      have hlt := drop_lt hd
      have hb := bt_of hd
      have h2 := drop_next hd
      have hsz := drop_size hd hn
      simp only [List.length_cons] at h hsz
      have ew := w1 hlt (by omega)
      have ed := w1 (n := d) (m := 10) (by omega) (by omega)
      have em : wrap64 ((d : Int) - 1) = ((d - 1 : Nat) : Int) := by rw [wk (by omega) (by omega)]; omega
      by_cases c1 : c = 40
      · by_cases hd8 : 8 < d + 1
        · refine Ev.eq (f := fun _ => some _) (fun k => ?_) (Ev.pure _)
          simp only [text_Comment.l0]
          rw [if_pos (by omega), if_pos (by omega), hb, if_pos (by rw [c1]; rfl), ed, if_pos (by omega), c1, cm_open, if_pos hd8]
          rfl
        · refine Ev.eq (f := fun k => text_Comment.l0 k s ((d + 1 : Nat) : Int) ((n + 1 : Nat) : Int)) (fun k => ?_) ?_
          · simp only [text_Comment.l0]
            rw [if_pos (by omega), if_pos (by omega), hb, if_pos (by rw [c1]; rfl), ed, if_neg (by omega), ew]
          · rw [c1, cm_open, if_neg hd8]
            exact ih l (d + 1) (n + 1) (by omega) h2 (by omega) (by omega) (by omega)
      · have c1' : ¬ (c.toNat : Int) = 40 := fun e => c1 ((c_eq c 40).1 e)
        by_cases c2 : c = 41
        · have c2' : (c.toNat : Int) = 41 := by rw [c2]; rfl
          by_cases hd1 : d = 1
          · refine Ev.eq (f := fun _ => some _) (fun k => ?_) (Ev.pure _)
            simp only [text_Comment.l0]
            rw [if_pos (by omega), if_pos (by omega), hb, if_neg c1', if_pos c2', em, if_pos (by omega), ew, c2, cm_close, if_pos hd1]
            rfl
          · refine Ev.eq (f := fun k => text_Comment.l0 k s ((d - 1 : Nat) : Int) ((n + 1 : Nat) : Int)) (fun k => ?_) ?_
            · simp only [text_Comment.l0]
              rw [if_pos (by omega), if_pos (by omega), hb, if_neg c1', if_pos c2', em, if_neg (by omega), ew]
            · rw [c2, cm_close, if_neg hd1]
              exact ih l (d - 1) (n + 1) (by omega) h2 (by omega) (by omega) (by omega)
        · have c2' : ¬ (c.toNat : Int) = 41 := fun e => c2 ((c_eq c 41).1 e)
          by_cases c3 : c = 92
          · have c3' : (c.toNat : Int) = 92 := by rw [c3]; rfl
            cases l with
            | nil =>
              refine Ev.eq (f := fun _ => some _) (fun k => ?_) (Ev.pure _)
              simp only [text_Comment.l0]
              rw [if_pos (by omega), if_pos (by omega), hb, if_neg c1', if_neg c2', if_pos c3', pair_f hs hd, c3, cm_back]
              rfl
            | cons e l =>
              simp only [List.length_cons] at h hsz
              have ew2 := Lib.hid (w1 (n := n + 1) (m := s.size) (by omega) (by omega))
              by_cases c4 : plC e
              · refine Ev.eq (f := fun k => text_Comment.l0 k s (d : Int) ((n + 2 : Nat) : Int)) (fun k => ?_) ?_
                · simp only [text_Comment.l0]
                  rw [if_pos (by omega), if_pos (by omega), hb, if_neg c1', if_neg c2', if_pos c3', pair_f hs hd, ew, ew2.out]
                  simp only [pairL, c4, if_true, Option.bind_some]
                · rw [c3, cm_pair, if_pos c4]
                  exact ih l d (n + 2) (by omega) (drop_next h2) (by omega) (by omega) (by omega)
              · refine Ev.eq (f := fun _ => some _) (fun k => ?_) (Ev.pure _)
                simp only [text_Comment.l0]
                rw [if_pos (by omega), if_pos (by omega), hb, if_neg c1', if_neg c2', if_pos c3', pair_f hs hd, c3, cm_pair, if_neg c4]
                simp only [pairL, c4]; rfl
          · have c3' : ¬ (c.toNat : Int) = 92 := fun e => c3 ((c_eq c 92).1 e)
            by_cases c4 : c = 9
            · have c4' : (c.toNat : Int) = 9 := by rw [c4]; rfl
              refine Ev.eq (f := fun k => text_Comment.l0 k s (d : Int) ((n + 1 : Nat) : Int)) (fun k => ?_) ?_
              · simp only [text_Comment.l0]
                rw [if_pos (by omega), if_pos (by omega), hb, if_neg c1', if_neg c2', if_neg c3', if_pos c4', ew]
              · rw [c4, cm_tab]
                exact ih l d (n + 1) (by omega) h2 (by omega) (by omega) (by omega)
            · have c4' : ¬ (c.toNat : Int) = 9 := fun e => c4 ((c_eq c 9).1 e)
              by_cases c5 : plC c
              · refine Ev.eq (f := fun k => text_Comment.l0 k s (d : Int) ((n + 1 : Nat) : Int)) (fun k => ?_) ?_
                · simp only [text_Comment.l0]
                  rw [if_pos (by omega), if_pos (by omega), hb, if_neg c1', if_neg c2', if_neg c3', if_neg c4', plain_f, ew]
                  simp only [c5, if_true, Option.bind_some]
                · rw [cm_else c1 c2 c3 c4, if_pos c5]
                  exact ih l d (n + 1) (by omega) h2 (by omega) (by omega) (by omega)
              · refine Ev.eq (f := fun _ => some _) (fun k => ?_) (Ev.pure _)
                simp only [text_Comment.l0]
                rw [if_pos (by omega), if_pos (by omega), hb, if_neg c1', if_neg c2', if_neg c3', if_neg c4', plain_f, cm_else c1 c2 c3 c4, if_neg c5]
                simp only [c5, Option.bind_some]; rfl
theorem comment_f {s : ByteArray} (hs : s.size ≤ 70368744177664) : Ev (fun k => text_Comment.f k s) (res2 (cm (L s))) := by
  cases hl : L s with
  | nil =>
    have h0 : s.toList = ([] : List UInt8) := by rw [toL, hl]
    refine Ev.eq (f := fun _ => some _) (fun k => ?_) (Ev.pure _)
    unfold text_Comment.f
    rw [if_pos h0]; simp only [text_Comment.j0, if_true]; rfl
  | cons c l =>
    have h0 : ¬ s.toList = ([] : List UInt8) := by rw [toL, hl]; simp
    have hd : (L s).drop 0 = c :: l := hl
    have hb := bt_of hd
    have hlt := drop_lt hd
    have hsz := drop_size hd (by omega)
    simp only [List.length_cons] at hsz
    by_cases c1 : c = 40
    · refine Ev.eq (f := fun k => text_Comment.l0 k s 0 ((0 : Nat) : Int)) (fun k => ?_) ?_
      · unfold text_Comment.f
        rw [if_neg h0, if_pos (by omega), show bt s 0 = bt s ((0 : Nat) : Int) from rfl, hb, c1]
        simp only [text_Comment.j0]; rfl
      · refine Ev.eq (f := fun k => text_Comment.l0 k s ((1 : Nat) : Int) ((1 : Nat) : Int)) (fun k => ?_) ?_
        · simp only [text_Comment.l0]
          rw [if_pos (by omega), if_pos (by omega), hb, if_pos (by rw [c1]; rfl), wk (by omega) (by omega), wk (by omega) (by omega), if_neg (by omega)]
          rfl
        · have := comment_l0 hs l.length l 1 1 (Nat.le_refl _) (drop_next hd) (by omega) (by omega) (by omega)
          simpa [cm, c1] using this
    · refine Ev.eq (f := fun _ => some _) (fun k => ?_) (Ev.pure _)
      unfold text_Comment.f
      have c1' : ((c.toNat : Int) != 40) = true := bne_iff_ne.mpr (fun e => c1 ((c_eq c 40).1 e))
      rw [if_neg h0, if_pos (by omega), show (0 : Int) = ((0 : Nat) : Int) from rfl, hb, c1']
      simp [text_Comment.j0, cm, c1, res2]
end Go.Proofs.Ytfeihligcondgaa.S
