/- TextBlank, in plain words: nested comments, white space, what Blank tells of them. -/
import Derived.Test.YtfeihligcondgaaDoorBC
import Derived.Test.YtfeihligcondgaaDoorBK
import Derived.Test.YtfeihligcondgaaDoorBx3
namespace Go.Proofs.YtfeihligcondgaaDoor.S
open Go.RowKit Go.Proofs.YtfeihligcondgaaDoor.B Go.Proofs.YtfeihligcondgaaDoorW.PrintWords Go.Proofs.YtfeihligcondgaaDoorW.PrintLast Go.Proofs.YtfeihligcondgaaDoorW.PrintMore
set_option linter.unusedVariables false
set_option linter.unusedSimpArgs false
def nst : Nat → List UInt8 → List UInt8
  | 0, l => l
  | d + 1, l => 40 :: (nst d l ++ [41])
theorem nst_len (d : Nat) (l : List UInt8) : (nst d l).length = l.length + 2 * d := by
  induction d with
  | zero => rfl
  | succ d ih => simp only [nst, List.length_cons, List.length_append, List.length_nil, ih]; omega
def Cl (l : List UInt8) : Prop := ∀ c ∈ l, plC c = true ∧ c ≠ 40 ∧ c ≠ 41 ∧ c ≠ 92 ∧ c ≠ 9
theorem cm_clean : ∀ (l t : List UInt8) (d n : Nat), Cl l → cmL (l ++ t) d n = cmL t d (n + l.length)
  | [], t, d, n, _ => rfl
  | c :: l, t, d, n, h => by
    obtain ⟨h1, h2, h3, h4, h5⟩ := h c (.head _)
    rw [List.cons_append, cm_else h2 h3 h4 h5, if_pos h1, cm_clean l t d (n + 1) (fun c hc => h c (.tail _ hc))]
    rw [List.length_cons]; congr 1; omega
theorem cm_nst : ∀ (e : Nat) (l t : List UInt8) (d n : Nat), Cl l → 1 ≤ d → d + e ≤ 8 → cmL (nst e l ++ t) d n = cmL t d (n + (nst e l).length)
  | 0, l, t, d, n, h, _, _ => cm_clean l t d n h
  | e + 1, l, t, d, n, h, hd, h8 => by
    rw [nst, List.cons_append, List.append_assoc, cm_open, if_neg (by omega), cm_nst e l _ (d + 1) (n + 1) h (by omega) (by omega), List.singleton_append, cm_close, if_neg (by omega)]
    simp only [List.length_cons, List.length_append, List.length_nil]
    rw [Nat.add_sub_cancel]; congr 1; omega
theorem cm_long : ∀ (e : Nat) (l t : List UInt8) (d n : Nat), Cl l → 1 ≤ d → d ≤ 8 → 8 < d + e → cmL (nst e l ++ t) d n = (0, 3)
  | 0, l, t, d, n, h, _, _, _ => by omega
  | e + 1, l, t, d, n, h, hd, h8, he => by
    rw [nst, List.cons_append, List.append_assoc, cm_open]
    by_cases hx : 8 < d + 1
    · rw [if_pos hx]
    · rw [if_neg hx]; exact cm_long e l _ (d + 1) (n + 1) h (by omega) (by omega) (by omega)
theorem cm_one (e : Nat) (l t : List UInt8) (h : Cl l) (h8 : e + 1 ≤ 8) : cm (nst (e + 1) l ++ t) = ((nst (e + 1) l).length, 0) := by
  rw [nst, List.cons_append, List.append_assoc]
  show (if (40 : UInt8) = 40 then cmL (nst e l ++ ([41] ++ t)) 1 1 else (0, 5)) = _
  rw [if_pos rfl, cm_nst e l _ 1 1 h (by omega) (by omega), List.singleton_append, cm_close, if_pos rfl]
  simp only [List.length_cons, List.length_append, List.length_nil]
  congr 1; omega
theorem cm_nine (e : Nat) (l : List UInt8) (h : Cl l) (h8 : 8 < e + 1) : cm (nst (e + 1) l) = (0, 3) := by
  rw [nst]
  show (if (40 : UInt8) = 40 then cmL (nst e l ++ [41]) 1 1 else (0, 5)) = _
  rw [if_pos rfl, cm_long e l _ 1 1 h (by omega) (by omega) (by omega)]
/-- What Blank takes whole. -/
def Bk (s : List UInt8) : Prop := ∀ t n, blL (s ++ t) n = blL t (n + s.length)
theorem Bk.nil : Bk [] := fun _ _ => rfl
theorem Bk.app {a b : List UInt8} (ha : Bk a) (hb : Bk b) : Bk (a ++ b) := fun t n => by
  rw [List.append_assoc, ha, hb, List.length_append, Nat.add_assoc]
theorem Bk.sp : Bk [32] := fun t n => bl_sp t n
theorem Bk.tab : Bk [9] := fun t n => bl_tab t n
theorem Bk.com {e : Nat} {l : List UInt8} (h : Cl l) (h8 : e + 1 ≤ 8) : Bk (nst (e + 1) l) := fun t n => by
  have hc := cm_one e l t h h8
  have hcons : nst (e + 1) l ++ t = 40 :: ((nst e l ++ [41]) ++ t) := rfl
  have hlen : (nst (e + 1) l).length = (nst e l ++ [41]).length + 1 := rfl
  rw [hcons, bl_com, ← hcons, hc, if_pos rfl]
  show blL (((nst e l ++ [41]) ++ t).drop ((nst (e + 1) l).length - 1)) _ = _
  rw [hlen, Nat.add_sub_cancel, List.drop_left]
theorem blank_of_Bk {s : List UInt8} (h : Bk s) : blL (s ++ [120]) 0 = (s.length, 0) := by
  rw [h, bl_else (by decide) (by decide) (by decide), Nat.zero_add]
/-- What Blank tells. -/
theorem bl_tells : ∀ (N : Nat) (l : List UInt8) (n : Nat), l.length ≤ N →
    ((blL l n).2 ≠ 0 ∧ (blL l n).1 = 0) ∨ ((blL l n).2 = 0 ∧ n ≤ (blL l n).1 ∧ (blL l n).1 ≤ n + l.length ∧ ∀ c t, l.drop ((blL l n).1 - n) = c :: t → c ≠ 32 ∧ c ≠ 9 ∧ c ≠ 40) := by
  intro N
  induction N with
  | zero =>
    intro l n h
    obtain rfl : l = [] := List.eq_nil_of_length_eq_zero (by omega)
    right; rw [bl_nil]
    exact ⟨rfl, Nat.le_refl _, by simp, fun c t hc => by simp at hc⟩
  | succ N ih =>
    intro l n h
    cases l with
    | nil => right; rw [bl_nil]; exact ⟨rfl, Nat.le_refl _, by simp, fun c t hc => by simp at hc⟩
    | cons c l =>
      simp only [List.length_cons] at h
      by_cases h1 : c = 32
      · subst h1
        rw [bl_sp]
        rcases ih l (n + 1) (by omega) with hA | ⟨a, b, d, e⟩
        · exact .inl hA
        · right
          refine ⟨a, by omega, by simp only [List.length_cons]; omega, fun c t hc => e c t ?_⟩
          rw [← hc, show (blL l (n + 1)).1 - n = ((blL l (n + 1)).1 - (n + 1)) + 1 by omega, List.drop_succ_cons]
      · by_cases h2 : c = 9
        · subst h2
          rw [bl_tab]
          rcases ih l (n + 1) (by omega) with hA | ⟨a, b, d, e⟩
          · exact .inl hA
          · right
            refine ⟨a, by omega, by simp only [List.length_cons]; omega, fun c t hc => e c t ?_⟩
            rw [← hc, show (blL l (n + 1)).1 - n = ((blL l (n + 1)).1 - (n + 1)) + 1 by omega, List.drop_succ_cons]
        · by_cases h3 : c = 40
          · subst h3
            rw [bl_com]
            have hle : (cm (40 :: l)).2 = 0 → 1 < (cm (40 :: l)).1 ∧ (cm (40 :: l)).1 ≤ 1 + l.length := by
              intro h0
              have := cmL_le l.length l 1 1 (Nat.le_refl _)
              have e : cm (40 :: l) = cmL l 1 1 := by show (if (40 : UInt8) = 40 then cmL l 1 1 else (0, 5)) = _; rw [if_pos rfl]
              rw [e] at h0 ⊢
              omega
            by_cases h0 : (cm (40 :: l)).2 = 0
            · rw [if_pos h0]
              have hl := hle h0
              generalize (cm (40 :: l)).1 = m at hl ⊢
              rcases ih (l.drop (m - 1)) (n + m) (by rw [List.length_drop]; omega) with hA | ⟨a, b, d, e⟩
              · exact .inl hA
              · right
                rw [List.length_drop] at d
                refine ⟨a, by omega, by simp only [List.length_cons]; omega, fun c t hc => e c t ?_⟩
                rw [← hc, List.drop_drop, show (blL (l.drop (m - 1)) (n + m)).1 - n = (m - 1 + ((blL (l.drop (m - 1)) (n + m)).1 - (n + m))) + 1 by omega, List.drop_succ_cons]
            · rw [if_neg h0]; exact .inl ⟨h0, rfl⟩
          · rw [bl_else h1 h2 h3]
            right
            refine ⟨rfl, Nat.le_refl _, by omega, fun d t hd => ?_⟩
            rw [Nat.sub_self, List.drop_zero] at hd
            injection hd with ha _
            subst ha; exact ⟨h1, h2, h3⟩
/-! ### nested -/
theorem nstB_eq (d : Nat) (l : List UInt8) : nstB d (B l) = B (nst d l) := by
  induction d with
  | zero => rfl
  | succ d ih =>
    unfold nstB nst
    rw [ih]
    have e1 : (⟨#[40]⟩ : ByteArray) ++ B (nst d l) = B (40 :: nst d l) := B_app [40] _
    rw [e1]
    exact B_app _ [41]
/-! ### what strings.Map leaves -/
theorem clean_byte (x : Int) : ∃ c : UInt8, Lib.encodeRune (cleanR x) = [c] ∧ plC c = true ∧ c ≠ 40 ∧ c ≠ 41 ∧ c ≠ 92 ∧ c ≠ 9 := by
  obtain ⟨h1, h2, h3, h4, h5⟩ := cleanR_range x
  refine ⟨(cleanR x).toNat.toUInt8, ?_, ?_, ?_, ?_, ?_, ?_⟩
  · unfold Lib.encodeRune
    rw [Lib.encodeRuneZ_one (by omega) (by omega)]; rfl
  all_goals (
    generalize cleanR x = z at *
    obtain ⟨k, rfl⟩ : ∃ k : Nat, z = (k : Int) := ⟨z.toNat, by omega⟩
    rw [Int.toNat_natCast]
    have hk : (k.toUInt8).toNat = k := by show k % 256 = k; omega)
  · unfold plC; rw [hk]; simp; omega
  all_goals (intro h; have := congrArg UInt8.toNat h; rw [hk] at this; simp at this; omega)
theorem mapD_clean : ∀ (n : Nat) (l : List UInt8), Cl (Lib.mapGoD cleanR n l) ∧ (Lib.mapGoD cleanR n l).length ≤ n
  | 0, l => by
    unfold Lib.mapGoD
    exact ⟨fun c h => by simp at h, by simp⟩
  | n + 1, l => by
    unfold Lib.mapGoD
    split
    · exact ⟨fun c h => by simp at h, by simp⟩
    · obtain ⟨c, hc, hr⟩ := clean_byte (Lib.decodeL l).1
      have ih := mapD_clean n (l.drop (Lib.decodeL l).2)
      rw [if_pos (by have := cleanR_range (Lib.decodeL l).1; omega), hc]
      refine ⟨fun d hd => ?_, by simp only [List.length_append, List.length_singleton]; have := ih.2; omega⟩
      rcases List.mem_append.1 hd with h | h
      · rw [List.mem_singleton.1 h]; exact hr
      · exact ih.1 d h
/-! ### what the law asks of the functions -/
theorem Ev.eq' {α : Type} {g f : Nat → Option α} {r : α} (h : ∀ k, g k = f k) (k : Ev f r) : Ev g r := by
  have : g = f := funext h
  rw [this]; exact k
def wsOf (i : Nat) : List UInt8 := match i % 4 with | 0 => [32] | 1 => [] | 2 => [9, 32] | _ => [32, 32]
theorem Bk.ws (i : Nat) : Bk (wsOf i) := by
  unfold wsOf
  split
  · exact Bk.sp
  · exact Bk.nil
  · exact Bk.app (a := [9]) Bk.tab Bk.sp
  · exact Bk.app (a := [32]) Bk.sp Bk.sp
theorem ix_ws {c : UInt8} (h : c ≠ 32 ∧ c ≠ 9 ∧ c ≠ 40) : Lib.indexByte [32, 9, 40] c < 0 := by
  obtain ⟨h1, h2, h3⟩ := h
  simp [Lib.indexByte, Ne.symm h1, Ne.symm h2, Ne.symm h3]
theorem ix_f {c : UInt8} (h : c ≠ 32 ∧ c ≠ 9 ∧ c ≠ 40) : ∃ z : Int, strings_IndexByte.f (⟨#[32, 9, 40]⟩ : ByteArray) (c.toNat : Int) = some z ∧ z < 0 := by
  refine ⟨_, rfl, ?_⟩
  have e : ((c.toNat : Int).toNat.toUInt8) = c := by
    rw [Int.toNat_natCast]
    exact UInt8.toNat_inj.1 (by show c.toNat % 256 = c.toNat; have := c.toNat_lt; omega)
  rw [e]
  exact ix_ws h
theorem nested_e (l : List UInt8) (z : Int) (d : Nat) (hz : z = (d : Int)) (hl : l.length ≤ 1000) (hd : d ≤ 100) : postriderlaw04_nested.f (B l) z = some (B (nst d l)) := by
  subst hz
  unfold postriderlaw04_nested.f
  rw [if_pos ⟨by rw [B_size]; exact hl, by omega, by omega⟩, Int.toNat_natCast, nstB_eq]
theorem comment_e (d : Nat) (l : List UInt8) (hl : l.length ≤ 1000) (hd : d ≤ 100) : Ev (fun k => text_Comment.f k (B (nst d l))) (res2 (cm (nst d l))) := by
  have := comment_f (s := B (nst d l)) (by rw [B_size, nst_len]; omega)
  rw [L_B] at this; exact this
theorem Cl_a : Cl [97] := fun c h => by rw [List.mem_singleton.1 h]; decide
theorem j4_true (a2 : Int) (h0 : 0 ≤ a2) (h1 : a2 ≤ 255) : Ev (fun k => postriderlaw04_TextBlank.j4 k a2 false) true := by
  refine Ev.eq (f := fun k => (postriderlaw04_nested.f (⟨#[97]⟩ : ByteArray) (wrap64 (9 + (wrap64 (Int.tmod a2 5))))).bind fun t135 => ((text_Comment.f k t135).bind fun bt136 => ((postriderlaw04_nested.f (⟨#[97]⟩ : ByteArray) 8).bind fun t138 => ((text_Comment.f k t138).bind fun bt139 => (if bt136.2 = 3 then (if bt139.2 = 0 then (if bt139.1 = 17 then ((postriderlaw04_tells.f k).bind fun t141 => (some t141)) else (some false)) else (some false)) else (some false)))))) (fun k => by simp only [postriderlaw04_TextBlank.j4]; rw [if_neg (by decide)]) ?_
  have ht : Int.tmod a2 5 = a2 % 5 := Int.tmod_eq_emod_of_nonneg h0
  obtain ⟨d, hd⟩ : ∃ d : Nat, a2 % 5 = (d : Int) := ⟨(a2 % 5).toNat, by omega⟩
  have hw : wrap64 (9 + (wrap64 (Int.tmod a2 5))) = ((8 + d + 1 : Nat) : Int) := by rw [ht, hd, wk (x := (d : Int)) (by omega) (by omega), wk (by omega) (by omega)]; omega
  refine Ev.bindc (nested_e [97] _ (8 + d + 1) hw (by simp) (by omega)) ?_
  have e1 := comment_e (8 + d + 1) [97] (by simp) (by omega)
  rw [cm_nine (8 + d) [97] Cl_a (by omega)] at e1
  refine Ev.bind2 e1 ?_
  refine Ev.bindc (nested_e [97] 8 8 rfl (by simp) (by omega)) ?_
  have e2 := comment_e 8 [97] (by simp) (by omega)
  have e3 := cm_one 7 [97] [] Cl_a (by omega)
  rw [List.append_nil] at e3
  rw [e3] at e2
  refine Ev.bind2 e2 ?_
  refine Ev.bind2 tells_f ?_
  exact Ev.pure _
theorem j3_true (b : ByteArray) (hb : b.size ≤ 1000) (a2 : Int) (h0 : 0 ≤ a2) (h1 : a2 ≤ 255) (n : Nat) (x13 : Int) (hn : n ≤ b.size) (hx : x13 = 0 → ∀ c t, (L b).drop n = c :: t → c ≠ 32 ∧ c ≠ 9 ∧ c ≠ 40) :
    Ev (fun k => postriderlaw04_TextBlank.j3 k b a2 (n : Int) x13 false) true := by
  have e0 : ∀ k, postriderlaw04_TextBlank.j3 (k + 1) b a2 (n : Int) x13 false = (if x13 = 0 then (if (b.extract n b.size).toList = ([] : List UInt8) then (postriderlaw04_TextBlank.j4 k a2 false) else (if 0 < ((b.extract n b.size).size : Int) then ((strings_IndexByte.f (⟨#[32, 9, 40]⟩ : ByteArray) (bt (b.extract n b.size) 0)).bind fun t134 => (postriderlaw04_TextBlank.j4 k a2 (decide (t134 ≥ 0)))) else (none))) else (postriderlaw04_TextBlank.j4 k a2 false)) := by
    intro k
    simp only [postriderlaw04_TextBlank.j3]
    rw [if_neg (by decide), if_pos (by omega), if_pos (by omega), Int.toNat_natCast]
  have j4 := j4_true a2 h0 h1
  by_cases hz : x13 = 0
  · have hd := hx hz
    cases hl : (L b).drop n with
    | nil =>
      refine Ev.eq (f := fun k => postriderlaw04_TextBlank.j4 k a2 false) (fun k => ?_) j4
      rw [e0, if_pos hz, if_pos (by rw [toL, L_ext_end, hl])]
    | cons c t =>
      obtain ⟨z, hz2, hz3⟩ := ix_f (hd c t hl)
      refine Ev.eq (f := fun k => postriderlaw04_TextBlank.j4 k a2 false) (fun k => ?_) j4
      have hbt : bt (b.extract n b.size) 0 = (c.toNat : Int) := bt_of (s := b.extract n b.size) (n := 0) (l := t) (by rw [L_ext_end, hl]; rfl)
      have hsz : 0 < (b.extract n b.size).size := by rw [← L_len, L_ext_end, hl]; simp
      rw [e0, if_pos hz, if_neg (by rw [toL, L_ext_end, hl]; simp), if_pos (by omega), hbt, hz2]
      show postriderlaw04_TextBlank.j4 k a2 (decide (z ≥ 0)) = _
      rw [decide_eq_false (by omega)]
  · refine Ev.eq (f := fun k => postriderlaw04_TextBlank.j4 k a2 false) (fun k => ?_) j4
    rw [e0, if_neg hz]
theorem j2_true (a1 : ByteArray) (a2 : Int) (h0 : 0 ≤ a2) (h1 : a2 ≤ 255) : Ev (fun k => postriderlaw04_TextBlank.j2 k a1 a2 false) true := by
  have hf := firsts a1 60
  have hm1 : 0 ≤ mn (a1.size : Int) 60 := by unfold mn; split <;> omega
  have hm2 := (mn_le (a1.size : Int) 60).1
  obtain ⟨b, hb⟩ : ∃ b, B ((L a1).take 60) = b := ⟨_, rfl⟩
  have hbs : b.size ≤ 60 := by rw [← hb, B_size, List.length_take]; omega
  rw [hb] at hf
  have e0 : ∀ k, postriderlaw04_TextBlank.j2 (k + 1) a1 a2 false = ((text_Blank.f k b).bind fun bt132 => (if bt132.1 < 0 then (postriderlaw04_TextBlank.j3 k b a2 bt132.1 bt132.2 true) else (if bt132.1 > (b.size : Int) then (postriderlaw04_TextBlank.j3 k b a2 bt132.1 bt132.2 true) else (if bt132.2 = 0 then (postriderlaw04_TextBlank.j3 k b a2 bt132.1 bt132.2 false) else (postriderlaw04_TextBlank.j3 k b a2 bt132.1 bt132.2 (bt132.1 != 0)))))) := by
    intro k
    simp only [postriderlaw04_TextBlank.j2]
    rw [if_neg (by decide), if_pos hm1, if_pos hm2]
    have hf2 : a1.extract 0 (mn (a1.size : Int) 60).toNat = b := hf
    rw [hf2]
  refine Ev.eq e0 ?_
  have hB := blank_f (s := b) (by omega)
  have ht := bl_tells (L b).length (L b) 0 (Nat.le_refl _)
  rcases hr : blL (L b) 0 with ⟨r1, r2⟩
  rw [hr] at hB ht
  refine Ev.bind2 (a := ((r1 : Int), (r2 : Int))) hB ?_
  simp only [Nat.sub_zero, Nat.zero_add, L_len] at ht
  show Ev (fun k => if (r1 : Int) < 0 then (postriderlaw04_TextBlank.j3 k b a2 r1 r2 true) else (if (r1 : Int) > (b.size : Int) then (postriderlaw04_TextBlank.j3 k b a2 r1 r2 true) else (if (r2 : Int) = 0 then (postriderlaw04_TextBlank.j3 k b a2 r1 r2 false) else (postriderlaw04_TextBlank.j3 k b a2 r1 r2 ((r1 : Int) != 0))))) true
  rcases ht with ⟨hA, hA1⟩ | ⟨hA, _, hle, hdrop⟩
  · have hA1' : r1 = 0 := hA1
    have hA' : r2 ≠ 0 := hA
    subst hA1'
    have j3 := j3_true b (by omega) a2 h0 h1 0 (r2 : Int) (by omega) (fun hz => by omega)
    refine Ev.eq' (fun k => ?_) j3
    rw [if_neg (by omega), if_neg (by omega), if_neg (by omega)]; rfl
  · have hA' : r2 = 0 := hA
    have hle' : r1 ≤ b.size := hle
    subst hA'
    have j3 := j3_true b (by omega) a2 h0 h1 r1 ((0 : Nat) : Int) hle' (fun _ c t hc => hdrop c t hc)
    refine Ev.eq' (fun k => ?_) j3
    rw [if_neg (by omega), if_neg (by omega), if_pos (by omega)]
theorem j1_true (a1 : ByteArray) (a2 : Int) (h0 : 0 ≤ a2) (h1 : a2 ≤ 255) (A : List UInt8) (hA : Bk A) (hl : A.length ≤ 1000) : Ev (fun k => postriderlaw04_TextBlank.j1 k a1 a2 (B A)) true := by
  have e0 : ∀ k, postriderlaw04_TextBlank.j1 (k + 1) a1 a2 (B A) = ((text_Blank.f k (B (A ++ [120]))).bind fun bt130 => (if bt130.2 = 0 then (postriderlaw04_TextBlank.j2 k a1 a2 (bt130.1 != (A.length : Int))) else (postriderlaw04_TextBlank.j2 k a1 a2 true))) := by
    intro k
    have e1 : B A ++ (⟨#[120]⟩ : ByteArray) = B (A ++ [120]) := B_app A [120]
    simp only [postriderlaw04_TextBlank.j1]
    rw [if_pos (by rw [B_size]; omega), e1, B_size]
  refine Ev.eq e0 ?_
  have hB := blank_f (s := B (A ++ [120])) (by rw [B_size]; simp; omega)
  rw [L_B, blank_of_Bk hA] at hB
  refine Ev.bind2 (a := ((A.length : Int), 0)) hB ?_
  refine Ev.eq' (fun k => ?_) (j2_true a1 a2 h0 h1)
  show (if (0 : Int) = 0 then (postriderlaw04_TextBlank.j2 k a1 a2 ((A.length : Int) != (A.length : Int))) else _) = _
  rw [if_pos rfl, bne_self_eq_false]
def ws4 : List ByteArray := [(⟨#[32]⟩ : ByteArray), (⟨#[]⟩ : ByteArray), (⟨#[9, 32]⟩ : ByteArray), (⟨#[32, 32]⟩ : ByteArray)]
theorem ws_at (i : Nat) (h : i ≤ 5) : rdOf ByteArray.empty ws4 (Int.tmod (i : Int) 4) = B (wsOf i) := by
  obtain rfl | rfl | rfl | rfl | rfl | rfl : i = 0 ∨ i = 1 ∨ i = 2 ∨ i = 3 ∨ i = 4 ∨ i = 5 := by omega
  all_goals rfl
theorem ws_len (i : Nat) : (wsOf i).length ≤ 2 := by unfold wsOf; split <;> simp
theorem map_f (p : ByteArray) (hp : p.size ≤ 20) : ∃ M : List UInt8, strings_Map__postriderlaw04_TextBlank_1.f p = some (B M) ∧ Cl M ∧ M.length ≤ 20 := by
  have h := mapD_clean p.data.toList.length p.data.toList
  have hl : p.data.toList.length = p.size := L_len p
  refine ⟨Lib.mapD cleanR p.data.toList, ?_, h.1, Nat.le_trans h.2 (by omega)⟩
  unfold strings_Map__postriderlaw04_TextBlank_1.f
  rw [if_pos (by omega)]; rfl
theorem l0_true (l : List ByteArray) (hl : l.length ≤ 140737488351232) (a1 : ByteArray) (a2 : Int) (h0 : 0 ≤ a2) (h1 : a2 ≤ 255) : ∀ (m i : Nat) (A : List UInt8), i + m = l.length → i ≤ 6 → Bk A → A.length ≤ 60 * i →
    Ev (fun k => postriderlaw04_TextBlank.l0 k a1 a2 (B A) l (l.length : Int) (i : Int)) true := by
  intro m
  induction m with
  | zero =>
    intro i A him hi hA hAl
    exact Ev.eq (f := fun k => postriderlaw04_TextBlank.j1 k a1 a2 (B A)) (fun k => by simp only [postriderlaw04_TextBlank.l0]; rw [if_neg (by omega)]) (j1_true a1 a2 h0 h1 A hA (by omega))
  | succ m ih =>
    intro i A him hi hA hAl
    by_cases h6 : i = 6
    · exact Ev.eq (f := fun k => postriderlaw04_TextBlank.j1 k a1 a2 (B A)) (fun k => by simp only [postriderlaw04_TextBlank.l0]; rw [if_pos (by omega), if_pos (by omega), if_pos (by omega), if_pos (by omega)]) (j1_true a1 a2 h0 h1 A hA (by omega))
    · obtain ⟨s, hs⟩ : ∃ s, rdOf ByteArray.empty l (i : Int) = s := ⟨_, rfl⟩
      have hf : s.extract 0 (mn (s.size : Int) 20).toNat = B ((L s).take 20) := firsts s 20
      have hm1 : 0 ≤ mn (s.size : Int) 20 := by unfold mn; split <;> omega
      have hm2 := (mn_le (s.size : Int) 20).1
      obtain ⟨M, hM, hMc, hMl⟩ := map_f (B ((L s).take 20)) (by rw [B_size, List.length_take]; omega)
      have ht : Int.tmod (a2 + i) 8 = (a2 + i) % 8 := Int.tmod_eq_emod_of_nonneg (by omega)
      obtain ⟨q, hq⟩ : ∃ q : Nat, (a2 + i) % 8 = (q : Int) := ⟨((a2 + i) % 8).toNat, by omega⟩
      have hw : wrap64 (1 + (Int.tmod (wrap64 ((wrap64 (a2)) + (i : Int))) 8)) = ((q + 1 : Nat) : Int) := by
        rw [wk (x := a2) (by omega) (by omega), wk (x := a2 + i) (by omega) (by omega), ht, hq, wk (by omega) (by omega)]; omega
      have hN := nested_e M _ (q + 1) hw (by omega) (by omega)
      have hws := ws_at i (by omega)
      have hwl := ws_len i
      have hnl := nst_len (q + 1) M
      have h4 : Int.tmod (i : Int) 4 = (i : Int) % 4 := Int.tmod_eq_emod_of_nonneg (by omega)
      have hBk : Bk (A ++ (nst (q + 1) M ++ wsOf i)) := hA.app ((Bk.com hMc (by omega)).app (Bk.ws i))
      refine Ev.eq (f := fun k => postriderlaw04_TextBlank.l0 k a1 a2 (B (A ++ (nst (q + 1) M ++ wsOf i))) l (l.length : Int) ((i + 1 : Nat) : Int)) (fun k => ?_) (ih (i + 1) _ (by omega) (by omega) hBk (by simp only [List.length_append]; omega))
      have e0 : postriderlaw04_TextBlank.l0 (k + 1) a1 a2 (B A) l (l.length : Int) (i : Int) = ((strings_Map__postriderlaw04_TextBlank_1.f (B ((L s).take 20))).bind fun t124 => ((postriderlaw04_nested.f t124 (wrap64 (1 + (Int.tmod (wrap64 ((wrap64 (a2)) + (i : Int))) 8)))).bind fun t125 => ((some ws4).bind fun y126 => (if 0 ≤ (Int.tmod (i : Int) 4) then (if (Int.tmod (i : Int) 4) < (y126.length : Int) then (if t125.size + (rdOf ByteArray.empty y126 (Int.tmod (i : Int) 4)).size ≤ 9223372036854775807 then (if (B A).size + (t125 ++ (rdOf ByteArray.empty y126 (Int.tmod (i : Int) 4))).size ≤ 9223372036854775807 then (postriderlaw04_TextBlank.l0 k a1 a2 (B A ++ (t125 ++ (rdOf ByteArray.empty y126 (Int.tmod (i : Int) 4)))) l (l.length : Int) (wrap64 ((i : Int) + 1))) else (none)) else (none)) else (none)) else (none))))) := by
        simp only [postriderlaw04_TextBlank.l0]
        rw [if_pos (by omega), if_pos (by omega), if_pos (by omega), if_neg (by omega), hs, if_pos hm1, if_pos hm2, hf]
        rfl
      rw [e0, hM]
      show ((postriderlaw04_nested.f (B M) (wrap64 (1 + (Int.tmod (wrap64 ((wrap64 (a2)) + (i : Int))) 8)))).bind _) = _
      rw [hN]
      show (if 0 ≤ (Int.tmod (i : Int) 4) then (if (Int.tmod (i : Int) 4) < (ws4.length : Int) then (if (B (nst (q + 1) M)).size + (rdOf ByteArray.empty ws4 (Int.tmod (i : Int) 4)).size ≤ 9223372036854775807 then (if (B A).size + (B (nst (q + 1) M) ++ (rdOf ByteArray.empty ws4 (Int.tmod (i : Int) 4))).size ≤ 9223372036854775807 then (postriderlaw04_TextBlank.l0 k a1 a2 (B A ++ (B (nst (q + 1) M) ++ (rdOf ByteArray.empty ws4 (Int.tmod (i : Int) 4)))) l (l.length : Int) (wrap64 ((i : Int) + 1))) else (none)) else (none)) else (none)) else (none)) = _
      rw [hws, B_app, B_app, B_size, B_size, B_size, B_size, if_pos (by omega), if_pos (by rw [h4]; show _ < ((4 : Nat) : Int); omega), if_pos (by omega), if_pos (by simp only [List.length_append]; omega), w1 (m := l.length) (by omega) hl]
theorem TextBlank_f (l : List ByteArray) (hl : l.length ≤ 140737488351232) (a1 : ByteArray) (a2 : Int) (h0 : 0 ≤ a2) (h1 : a2 ≤ 255) : ∃ k, postriderlaw04_TextBlank.f k l a1 a2 = some true :=
  Ev.to (l0_true l hl a1 a2 h0 h1 l.length 0 [] (by omega) (by omega) Bk.nil (by simp))
end Go.Proofs.YtfeihligcondgaaDoor.S
