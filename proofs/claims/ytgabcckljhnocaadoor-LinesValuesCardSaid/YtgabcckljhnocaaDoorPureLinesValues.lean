/- Of any row of words (the first 20, of at most 60 bytes, brought to printable ones) and any number of blanks: the words, quoted and joined by commas, are read as they are; more than MaxTargets are refused; what ends in a comma, begins with one, or has a value that is none, is none. -/
import Derived.Test.YtgabcckljhnocaaDoorLQ
import Derived.Test.YtgabcckljhnocaaDoorQx5
namespace Go.Proofs.YtgabcckljhnocaaDoor.Pure
open Go.RowKit Go.Proofs.YtgabcckljhnocaaDoor.Q Go.Proofs.YtgabcckljhnocaaDoor.S Go.Proofs.YtgabcckljhnocaaDoorW.PrintWords Go.Proofs.YtgabcckljhnocaaDoorW.PrintLast Go.Proofs.YtgabcckljhnocaaDoorW.PrintMore
set_option linter.unusedVariables false
set_option linter.unusedSimpArgs false
theorem wakes_f : Ev (fun k => postriderlaw13_wakes.f k) true := Ev.of (k := 40) (fun k => postriderlaw13_wakes.mono k) (by decide +kernel)
/-- So many blanks. -/
def pad (n : Nat) : List UInt8 := List.replicate n 32
theorem pad_bl (n : Nat) : (pad n).all blC = true := by
  rw [List.all_eq_true]
  intro x hx
  rw [(List.mem_replicate.1 hx).2]; decide
theorem rep_f {n : Nat} (h : n ≤ 100) : strings_Repeat.f (⟨#[32]⟩ : ByteArray) (n : Int) = some (B (pad n)) := by
  unfold strings_Repeat.f
  rw [if_pos ⟨by omega, by omega, by show 1 * _ ≤ _; omega⟩]
  congr 1
  rw [Int.toNat_natCast]
  have : Lib.repeatL (⟨#[32]⟩ : ByteArray).data.toList n = pad n := by
    have := Lib.repeatL_replicate 32 1 n
    rw [Nat.mul_one] at this
    exact this
  rw [this]; rfl
theorem pr_all (ws : List (List UInt8)) (h : ∀ w ∈ ws, w.all pnC = true) {sep : List UInt8} (hs : sep.all prC = true) : (Lib.join (ws.map quL) sep).all prC = true := by
  have hq : ∀ w, w.all pnC = true → (quL w).all prC = true := by
    intro w hw
    have hw' := List.all_eq_true.1 hw
    rw [List.all_eq_true]
    intro c hc
    unfold quL at hc
    split at hc
    · exact pn_pr c (hw' c hc)
    · rcases List.mem_cons.1 hc with rfl | hc
      · decide
      · rcases List.mem_append.1 hc with hc | hc
        · unfold qtM at hc
          obtain ⟨x, hx, hc⟩ := List.mem_flatMap.1 hc
          unfold qtC at hc
          split at hc
          · rcases List.mem_cons.1 hc with rfl | hc
            · decide
            · rw [List.mem_singleton.1 hc]; exact pn_pr x (hw' x hx)
          · rw [List.mem_singleton.1 hc]; exact pn_pr x (hw' x hx)
        · rw [List.mem_singleton.1 hc]; decide
  induction ws with
  | nil => rfl
  | cons w ws ih =>
    cases ws with
    | nil => rw [List.map_cons, List.map_nil, Lib.join_one]; exact hq w (h w (by simp))
    | cons y r =>
      rw [List.map_cons, List.map_cons, join_cons2, List.all_append, List.all_append, hq w (h w (by simp)), hs, ← List.map_cons, ih (fun x hx => h x (by simp [hx]))]; rfl
theorem join_len (ws : List (List UInt8)) (h : ∀ w ∈ ws, w.length ≤ 60) (sep : List UInt8) : (Lib.join (ws.map quL) sep).length ≤ ws.length * (122 + sep.length) := by
  induction ws with
  | nil => simp [Lib.join_nil]
  | cons w ws ih =>
    have hw := quL_len w
    have hw2 := h w (by simp)
    cases ws with
    | nil => rw [List.map_cons, List.map_nil, Lib.join_one]; simp; omega
    | cons y r =>
      have := ih (fun x hx => h x (by simp [hx]))
      rw [List.map_cons, List.map_cons, join_cons2, ← List.map_cons]
      simp only [List.length_append, List.length_cons] at this ⊢
      rw [Nat.add_mul (r.length + 1) 1]
      omega
/-- The text of the words. -/
def tx (b : Nat) (ws : List (List UInt8)) : List UInt8 := pad b ++ (Lib.join (ws.map quL) (pad b ++ 44 :: pad b) ++ pad b)
theorem tx_pr (b : Nat) (ws : List (List UInt8)) (h : ∀ w ∈ ws, w.all pnC = true) : (tx b ws).all prC = true := by
  have hp : (pad b).all prC = true := by
    rw [List.all_eq_true]
    intro x hx
    rw [(List.mem_replicate.1 hx).2]; decide
  unfold tx
  rw [List.all_append, List.all_append, hp, pr_all ws h (by rw [List.all_append, List.all_cons, hp]; decide)]; rfl
theorem tx_len (b : Nat) (hb : b ≤ 4) (ws : List (List UInt8)) (hn : ws.length ≤ 20) (h : ∀ w ∈ ws, w.length ≤ 60) : (tx b ws).length ≤ 3000 := by
  have := join_len ws h (pad b ++ 44 :: pad b)
  unfold tx
  have hl : (pad b).length = b := by simp [pad]
  simp only [List.length_append, List.length_cons, hl] at this ⊢
  have : ws.length * (122 + (b + (b + 1))) ≤ 20 * 131 := Nat.mul_le_mul hn (by omega)
  omega
/-- What a bad text answers. -/
theorem bad_f {t : List UInt8} (hs : t.length ≤ 4000) {n : Nat} (hn : n ≤ 100) (h : t.all prC = false ∨ vlL n t [] = some ([], 5)) : Ev (fun k => lines_Values.f k (B t)) ([], 5) := by
  have hz : (B t).size ≤ 70368744 := by rw [B_size]; omega
  by_cases hp : t.all prC = true
  · rcases h with h | h
    · rw [hp] at h; cases h
    · have := vl_f n t [] ([], 5) (by omega) (by simp; omega) h
      exact values_f hz (by rw [L_B]; exact hp) this
  · exact values_unprintable hz (by rw [L_B]; exact Bool.eq_false_iff.2 hp)
theorem l1_f {x0 x1 x2 x3 x4 x5 : ByteArray} (h0 : Ev (fun k => lines_Values.f k x0) ([], 5)) (h1 : Ev (fun k => lines_Values.f k x1) ([], 5)) (h2 : Ev (fun k => lines_Values.f k x2) ([], 5)) (h3 : Ev (fun k => lines_Values.f k x3) ([], 5)) (h4 : Ev (fun k => lines_Values.f k x4) ([], 5)) (h5 : Ev (fun k => lines_Values.f k x5) ([], 5)) :
    Ev (fun k => postriderlaw13_LinesValues.l1 k 0 x0 x1 x2 x3 x4 x5) true := by
  have e6 : Ev (fun k => postriderlaw13_LinesValues.l1 k (5 + 1) x0 x1 x2 x3 x4 x5) true := by
    refine Ev.eq (f := fun k => (postriderlaw13_wakes.f k).bind fun t => some t) (fun k => by simp only [postriderlaw13_LinesValues.l1]; rw [if_neg (by decide)]) ?_
    exact Ev.bind2 wakes_f (Ev.pure _)
  have e5 : Ev (fun k => postriderlaw13_LinesValues.l1 k (4 + 1) x0 x1 x2 x3 x4 x5) true := by
    refine Ev.eq (f := fun k => (lines_Values.f k x5).bind fun bt => (if bt.2 = 5 then (postriderlaw13_LinesValues.l1 k (5 + 1) x0 x1 x2 x3 x4 x5) else (some false))) (fun k => by simp only [postriderlaw13_LinesValues.l1]; rfl) ?_
    refine Ev.bind2 h5 ?_
    simp only [if_true]; exact e6
  have e4 : Ev (fun k => postriderlaw13_LinesValues.l1 k (3 + 1) x0 x1 x2 x3 x4 x5) true := by
    refine Ev.eq (f := fun k => (lines_Values.f k x4).bind fun bt => (if bt.2 = 5 then (postriderlaw13_LinesValues.l1 k (4 + 1) x0 x1 x2 x3 x4 x5) else (some false))) (fun k => by simp only [postriderlaw13_LinesValues.l1]; rfl) ?_
    refine Ev.bind2 h4 ?_
    simp only [if_true]; exact e5
  have e3 : Ev (fun k => postriderlaw13_LinesValues.l1 k (2 + 1) x0 x1 x2 x3 x4 x5) true := by
    refine Ev.eq (f := fun k => (lines_Values.f k x3).bind fun bt => (if bt.2 = 5 then (postriderlaw13_LinesValues.l1 k (3 + 1) x0 x1 x2 x3 x4 x5) else (some false))) (fun k => by simp only [postriderlaw13_LinesValues.l1]; rfl) ?_
    refine Ev.bind2 h3 ?_
    simp only [if_true]; exact e4
  have e2 : Ev (fun k => postriderlaw13_LinesValues.l1 k (1 + 1) x0 x1 x2 x3 x4 x5) true := by
    refine Ev.eq (f := fun k => (lines_Values.f k x2).bind fun bt => (if bt.2 = 5 then (postriderlaw13_LinesValues.l1 k (2 + 1) x0 x1 x2 x3 x4 x5) else (some false))) (fun k => by simp only [postriderlaw13_LinesValues.l1]; rfl) ?_
    refine Ev.bind2 h2 ?_
    simp only [if_true]; exact e3
  have e1 : Ev (fun k => postriderlaw13_LinesValues.l1 k (0 + 1) x0 x1 x2 x3 x4 x5) true := by
    refine Ev.eq (f := fun k => (lines_Values.f k x1).bind fun bt => (if bt.2 = 5 then (postriderlaw13_LinesValues.l1 k (1 + 1) x0 x1 x2 x3 x4 x5) else (some false))) (fun k => by simp only [postriderlaw13_LinesValues.l1]; rfl) ?_
    refine Ev.bind2 h1 ?_
    simp only [if_true]; exact e2
  refine Ev.eq (f := fun k => (lines_Values.f k x0).bind fun bt => (if bt.2 = 5 then (postriderlaw13_LinesValues.l1 k (0 + 1) x0 x1 x2 x3 x4 x5) else (some false))) (fun k => by simp only [postriderlaw13_LinesValues.l1]; rfl) ?_
  refine Ev.bind2 h0 ?_
  simp only [if_true]; exact e1
theorem wd_empty : wdL [] 44 = ([], [], false, false) := rfl
theorem vl_empty (n : Nat) (out : List (List UInt8)) : vlL (n + 1) [] out = some ([], 5) := by simp [vlL, wd_empty]
/-- What stands behind the words, behind a comma. -/
theorem bad_behind (b : Nat) (hb : b ≤ 4) {ws : List (List UInt8)} (hne : ws ≠ []) (hn : ws.length ≤ 20) (R : List UInt8) (hR : vlL 1 R ws = some ([], 5)) : vlL (1 + ws.length) (tx b ws ++ 44 :: R) [] = some ([], 5) := by
  unfold tx
  rw [List.append_assoc, List.append_assoc]
  rw [vl_join (pad_bl b) (pad_bl b) (pad_bl b) R ws (pad b) 1 [] (pad_bl b) hne, List.nil_append]
  exact hR
theorem bad_of {R : List UInt8} (h : (wdL R 44).2.2.2 = false) (out : List (List UInt8)) : vlL 1 R out = some ([], 5) := by simp [vlL, h]
theorem bads (b : Nat) (hb : b ≤ 4) {ws : List (List UInt8)} (hne : ws ≠ []) (hn : ws.length ≤ 20) (hl : ∀ w ∈ ws, w.length ≤ 60) :
    Ev (fun k => postriderlaw13_LinesValues.l1 k 0 (B (tx b ws) ++ (⟨#[44]⟩ : ByteArray)) ((⟨#[44]⟩ : ByteArray) ++ B (tx b ws)) (B (tx b ws) ++ (⟨#[44, 32, 34, 120]⟩ : ByteArray)) (B (tx b ws) ++ (⟨#[44, 32, 120, 34, 121]⟩ : ByteArray)) (B (tx b ws) ++ (⟨#[44, 32, 34, 120, 34, 32, 121]⟩ : ByteArray)) (B (tx b ws) ++ (⟨#[1]⟩ : ByteArray))) true := by
  have hz := tx_len b hb ws hn hl
  have key : ∀ R : List UInt8, R.length ≤ 10 → (wdL R 44).2.2.2 = false → Ev (fun k => lines_Values.f k (B (tx b ws) ++ B (44 :: R))) ([], 5) := by
    intro R h1 h2
    rw [B_app]
    exact bad_f (n := 1 + ws.length) (by simp; omega) (by omega) (.inr (bad_behind b hb hne hn R (bad_of h2 ws)))
  refine l1_f (key [] (by simp) (by decide)) ?_ (key [32, 34, 120] (by simp) (by decide)) (key [32, 120, 34, 121] (by simp) (by decide)) (key [32, 34, 120, 34, 32, 121] (by simp) (by decide)) ?_
  · rw [show (⟨#[44]⟩ : ByteArray) = B [44] from rfl, B_app]
    refine bad_f (n := 1) (by simp; omega) (by omega) (.inr (bad_of ?_ []))
    unfold wdL
    rw [List.singleton_append, trimL_head (by decide), rd_head (by decide)]
    simp only [if_neg (show ¬ (44 : UInt8) = 34 by decide)]
    have : cutC 44 (44 :: rdL (tx b ws)) = ([], rdL (tx b ws), true) := cut_hit (a := []) (by simp) _
    rw [this]; rfl
  · rw [show (⟨#[1]⟩ : ByteArray) = B [1] from rfl, B_app]
    refine bad_f (n := 1) (by simp; omega) (by omega) (.inl ?_)
    rw [List.all_append, show ([1] : List UInt8).all prC = false from by decide, Bool.and_false]
theorem after (ws : List (List UInt8)) (hn : ws.length ≤ 20) (hl : ∀ w ∈ ws, w.length ≤ 60) (hc : ∀ w ∈ ws, w.all pnC = true) (l : List ByteArray) (hll : l.length ≤ maxLen) {n : Nat} (hnl : l.length ≤ n) (a : Nat) (ha : a < 256) :
    Ev (fun k => postriderlaw13_LinesValues.l0 k (a : Int) (ws.map B) ((ws.map quL).map B) l (l.length : Int) (n : Int)) true := by
  have h5 : wrap64 (Int.tmod (a : Int) 5) = ((a % 5 : Nat) : Int) := by rw [Int.tmod_eq_emod_of_nonneg (by omega), wk (by omega) (by omega)]; omega
  have h3 : wrap64 (Int.tmod (a : Int) 3) = ((a % 3 : Nat) : Int) := by rw [Int.tmod_eq_emod_of_nonneg (by omega), wk (by omega) (by omega)]; omega
  by_cases hne : ws = []
  · subst hne
    refine Ev.eq (f := fun k => (strings_Repeat.f (⟨#[32]⟩ : ByteArray) ((a % 5 : Nat) : Int)).bind fun t282 => ((lines_Values.f k t282).bind fun bt283 => (if bt283.2 = 5 then ((postriderlaw13_wakes.f k).bind fun t287 => (some t287)) else (some false)))) (fun k => ?_) ?_
    · simp only [postriderlaw13_LinesValues.l0]
      rw [if_neg (by omega), if_pos (by rfl), h5]
    · refine Ev.bindc (rep_f (by omega)) ?_
      refine Ev.bind2 (bad_f (n := 1) (by simp [pad]; omega) (by omega) (.inr ?_)) ?_
      · have := vl_end 1 (pad_bl (a % 5)) [] []
        rw [List.nil_append] at this
        rw [this]; exact vl_empty 0 []
      · simp only [if_true]
        exact Ev.bind2 wakes_f (Ev.pure _)
  · obtain ⟨b, hb⟩ : ∃ b, b = a % 3 := ⟨_, rfl⟩
    have hb4 : b ≤ 4 := by omega
    have hpl : (pad b).length = b := by simp [pad]
    have hz := tx_len b hb4 ws hn hl
    have hjl : (Lib.join (ws.map quL) (pad b ++ 44 :: pad b)).length ≤ 3000 := by
      unfold tx at hz
      simp only [List.length_append] at hz; omega
    have hwl : 0 < ws.length := List.length_pos_iff.2 hne
    have hj : strings_Join.f ((ws.map quL).map B) (B (pad b ++ 44 :: pad b)) = some (B (Lib.join (ws.map quL) (pad b ++ 44 :: pad b))) := by
      obtain ⟨x, t, hx⟩ : ∃ x t, (ws.map quL).map B = x :: t := by
        cases ws with
        | nil => exact absurd rfl hne
        | cons w r => exact ⟨_, _, rfl⟩
      have e1 : ((x :: t).map (·.data.toList)) = ws.map quL := by
        rw [← hx, List.map_map, List.map_map]
        exact List.map_congr_left (fun w _ => L_B (quL w))
      have e2 : (B (pad b ++ 44 :: pad b)).data.toList = pad b ++ 44 :: pad b := L_B _
      have e3 : (x :: t).length = ws.length := by rw [← hx]; simp
      rw [hx]
      show (if _ ∧ _ then _ else none) = _
      rw [e1, e2, if_pos ⟨by omega, by omega⟩]; rfl
    have eq1 : B (pad b) ++ (⟨#[44]⟩ : ByteArray) ++ B (pad b) = B (pad b ++ 44 :: pad b) := by
      rw [show (⟨#[44]⟩ : ByteArray) = B [44] from rfl, B_app, B_app]; simp
    have eq2 : B (pad b) ++ B (Lib.join (ws.map quL) (pad b ++ 44 :: pad b)) ++ B (pad b) = B (tx b ws) := by
      rw [B_app, B_app, List.append_assoc]; rfl
    have z1 : (B (pad b)).size = b := by rw [B_size, hpl]
    have z2 : (B (pad b) ++ (⟨#[44]⟩ : ByteArray)).size = b + 1 := by rw [show (⟨#[44]⟩ : ByteArray) = B [44] from rfl, B_app, B_size]; simp [pad]
    have z3 : (B (Lib.join (ws.map quL) (pad b ++ 44 :: pad b))).size ≤ 3000 := by rw [B_size]; exact hjl
    have z4 : (B (pad b) ++ B (Lib.join (ws.map quL) (pad b ++ 44 :: pad b))).size ≤ 4000 := by rw [B_app, B_size, List.length_append, hpl]; omega
    have z5 : (B (tx b ws)).size ≤ 3000 := by rw [B_size]; exact hz
    have hv := vl_words (pad_bl b) (pad_bl b) (pad_bl b) ws (pad b) 0 [] (pad_bl b) hne
    rw [List.nil_append] at hv
    have hbad := bads b hb4 hne hn hl
    refine Ev.eq (f := fun k => (strings_Repeat.f (⟨#[32]⟩ : ByteArray) ((a % 3 : Nat) : Int)).bind fun t288 => (if t288.size + 1 ≤ 9223372036854775807 then (if (t288 ++ (⟨#[44]⟩ : ByteArray)).size + t288.size ≤ 9223372036854775807 then ((strings_Join.f ((ws.map quL).map B) ((t288 ++ (⟨#[44]⟩ : ByteArray)) ++ t288)).bind fun t289 => (if t288.size + t289.size ≤ 9223372036854775807 then (if (t288 ++ t289).size + t288.size ≤ 9223372036854775807 then ((lines_Values.f k ((t288 ++ t289) ++ t288)).bind fun bt290 => (if ((ws.map B).length : Int) > 16 then (if bt290.2 = 7 then (if (bt290.1.length : Int) = 0 then ((postriderlaw13_wakes.f k).bind fun t294 => (some t294)) else (some false)) else (some false)) else (if bt290.2 = 0 then ((slices_Equal_string_string.f k bt290.1 (ws.map B)).bind fun t295 => (postriderlaw13_LinesValues.j1 k ((t288 ++ t289) ++ t288) (!t295))) else (postriderlaw13_LinesValues.j1 k ((t288 ++ t289) ++ t288) true)))) else (none)) else (none))) else (none)) else (none))) (fun k => ?_) ?_
    · simp only [postriderlaw13_LinesValues.l0]
      rw [if_neg (by omega), if_neg (by rw [List.length_map]; omega), h3]
    · refine Ev.bindc (rep_f (by omega)) ?_
      rw [← hb]
      simp only [eq1, eq2, z1, z2, if_pos (show b + 1 ≤ 9223372036854775807 by omega), if_pos (show b + 1 + b ≤ 9223372036854775807 by omega)]
      refine Ev.bindc hj ?_
      simp only [eq2, if_pos (show b + (B (Lib.join (ws.map quL) (pad b ++ 44 :: pad b))).size ≤ 9223372036854775807 by omega), if_pos (show (B (pad b) ++ B (Lib.join (ws.map quL) (pad b ++ 44 :: pad b))).size + b ≤ 9223372036854775807 by omega)]
      have hvf : ∀ X, vlL (0 + ws.length) (tx b ws) [] = some X → Ev (fun k => lines_Values.f k (B (tx b ws))) (X.1.map B, X.2) := fun X hX =>
        values_f (by omega) (by rw [L_B]; exact tx_pr b ws hc) (vl_f (0 + ws.length) (tx b ws) [] X (by omega) (by simp; omega) hX)
      by_cases h16 : 16 < ws.length
      · rw [if_pos h16] at hv
        refine Ev.bind2 (hvf ([], 7) hv) ?_
        simp only [List.length_map, if_pos (show ((ws.length : Int) > 16) by omega), if_true, List.map_nil, List.length_nil]
        simp only [if_pos (show (((0 : Nat) : Int) = 0) from rfl)]
        exact Ev.bind2 wakes_f (Ev.pure _)
      · rw [if_neg h16] at hv
        refine Ev.bind2 (hvf (ws, 0) hv) ?_
        simp only [List.length_map, if_neg (show ¬ ((ws.length : Int) > 16) by omega), if_true]
        refine Ev.bind2 (eqS (by rw [List.length_map]; omega)) ?_
        refine Ev.eq (f := fun k => postriderlaw13_LinesValues.l1 k 0 (B (tx b ws) ++ (⟨#[44]⟩ : ByteArray)) ((⟨#[44]⟩ : ByteArray) ++ B (tx b ws)) (B (tx b ws) ++ (⟨#[44, 32, 34, 120]⟩ : ByteArray)) (B (tx b ws) ++ (⟨#[44, 32, 120, 34, 121]⟩ : ByteArray)) (B (tx b ws) ++ (⟨#[44, 32, 34, 120, 34, 32, 121]⟩ : ByteArray)) (B (tx b ws) ++ (⟨#[1]⟩ : ByteArray))) (fun k => ?_) hbad
        simp only [postriderlaw13_LinesValues.j1]
        rw [if_neg (by simp), if_pos (by omega), if_pos (by omega), if_pos (by omega), if_pos (by omega), if_pos (by omega)]
theorem wof_small (s : ByteArray) : ((B ((L s).take 60)).size ≤ 60) := by rw [B_size, List.length_take]; omega
/-- The loop over the words. -/
theorem loop (l : List ByteArray) (hll : l.length ≤ maxLen) (hlx : ∀ x ∈ l, x.size ≤ maxLen) (a : Nat) (ha : a < 256) : ∀ (d n : Nat), n + d = l.length →
    Ev (fun k => postriderlaw13_LinesValues.l0 k (a : Int) ((((l.take n).take 20).map fun s => ((L s).take 60).map pnW).map B) (((((l.take n).take 20).map fun s => ((L s).take 60).map pnW).map quL).map B) l (l.length : Int) (n : Int)) true := by
  have hM : maxLen = 9223372036854775807 := rfl
  have hpn : ∀ x : List UInt8, (x.map pnW).all pnC = true := by
    intro x
    rw [List.all_eq_true]
    intro c hc
    obtain ⟨y, _, rfl⟩ := List.mem_map.1 hc
    exact pn_ok y
  have hws : ∀ n, ∀ w ∈ ((l.take n).take 20).map fun s => ((L s).take 60).map pnW, w.length ≤ 60 ∧ w.all pnC = true := by
    intro n w hw
    obtain ⟨s, _, rfl⟩ := List.mem_map.1 hw
    exact ⟨by simp; omega, hpn _⟩
  intro d
  induction d with
  | zero =>
    intro n h
    exact after _ (by simp; omega) (fun w hw => (hws n w hw).1) (fun w hw => (hws n w hw).2) l hll (by omega) a ha
  | succ d ih =>
    intro n h
    have key := ih (n + 1) (by omega)
    have hn : n < l.length := by omega
    have ew : wrap64 ((n : Int) + 1) = ((n + 1 : Nat) : Int) := by unfold wrap64; omega
    have hrd : rdOf ByteArray.empty l (n : Int) = l[n] := by
      unfold rdOf
      rw [Int.toNat_natCast, List.getD_eq_getElem?_getD, List.getElem?_eq_getElem hn]; rfl
    have hs := hlx _ (List.getElem_mem hn)
    have hmn := mn_le ((l[n]).size : Int) 60
    have e0 : (l[n]).extract 0 ((mn ((l[n]).size : Int) 60) : Int).toNat = B ((L l[n]).take 60) := firsts l[n] 60
    by_cases h20 : n < 20
    · have ht : (l.take (n + 1)).take 20 = (l.take n).take 20 ++ [l[n]] := by
        rw [List.take_take, List.take_take, show min 20 (n + 1) = n + 1 by omega, show min 20 n = n by omega, List.take_succ_eq_append_getElem hn]
      rw [ht] at key
      simp only [List.map_append, List.map_cons, List.map_nil] at key
      obtain ⟨w, hw⟩ : ∃ w, w = ((L l[n]).take 60).map pnW := ⟨_, rfl⟩
      rw [← hw] at key
      have hpr : Ev (fun k => postriderlaw13_printed.f k (B ((L l[n]).take 60))) (B w) := by
        have := printed_f (s := B ((L l[n]).take 60)) (by have := wof_small l[n]; omega)
        rw [L_B] at this
        rw [hw]; exact this
      have hwl : w.length ≤ 60 := by rw [hw]; simp; omega
      have hwc : ∀ c ∈ w, c.toNat < 128 := fun c hc => pn_lt (List.all_eq_true.1 (by rw [hw]; exact hpn _) c hc)
      have hlen : (((l.take n).take 20).map fun s => ((L s).take 60).map pnW).length ≤ 20 := by simp; omega
      generalize (((l.take n).take 20).map fun s => ((L s).take 60).map pnW) = ws at key hlen ⊢
      refine Ev.eq (f := fun k => (postriderlaw13_printed.f k (B ((L l[n]).take 60))).bind fun t274 => (if (ws.map B).length < 8796093022208 then ((lines_Quote.f k t274).bind fun t278 => (if ((ws.map quL).map B).length < 8796093022208 then (postriderlaw13_LinesValues.l0 k (a : Int) (ws.map B ++ [t274]) ((ws.map quL).map B ++ [t278]) l (l.length : Int) ((n + 1 : Nat) : Int)) else (none))) else (none))) (fun k => ?_) ?_
      · simp only [postriderlaw13_LinesValues.l0]
        rw [if_pos (by omega), if_pos (by omega), if_pos (by omega), if_pos (by omega), hrd, if_pos (by omega), if_pos (by omega), e0, ew]
      · refine Ev.bind2 hpr ?_
        simp only [List.length_map, if_pos (show ws.length < 8796093022208 by omega)]
        exact Ev.bind2 (quote_f (by omega) hwc) key
    · have ht : (l.take (n + 1)).take 20 = (l.take n).take 20 := by
        rw [List.take_take, List.take_take, show min 20 (n + 1) = min 20 n by omega]
      rw [ht] at key
      refine Ev.eq (fun k => ?_) key
      simp only [postriderlaw13_LinesValues.l0]
      rw [if_pos (by omega), if_pos (by omega), if_pos (by omega), if_neg (by omega), ew]
theorem LinesValues : postriderlaw13_LinesValues.Pure := by
  intro l a hl hlx ha
  obtain ⟨h0, h1⟩ : 0 ≤ a ∧ a < 256 := by
    have h : IntKind.u8.min ≤ a ∧ a ≤ IntKind.u8.max := by simpa [Lit.wf] using ha
    have e1 : IntKind.u8.min = 0 := by decide
    have e2 : IntKind.u8.max = 255 := by decide
    omega
  obtain ⟨n, rfl⟩ : ∃ n : Nat, a = (n : Int) := ⟨a.toNat, by omega⟩
  apply Ev.to
  unfold postriderlaw13_LinesValues.f
  exact loop l hl hlx n (by omega) l.length 0 (by omega)
end Go.Proofs.YtgabcckljhnocaaDoor.Pure
