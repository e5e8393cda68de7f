/- Messages told: equality of rows of fields, texts, values of a name. -/
import Derived.Test.YtdciiahlakgikaaDoorHLa
import Derived.Test.YtdciiahlakgikaaDoorQx7
import Derived.Test.YtdciiahlakgikaaDoorQx11
import Derived.Test.YtdciiahlakgikaaDoorQx0
namespace Go.Proofs.YtdciiahlakgikaaDoor.S
open Go.RowKit Go.Proofs.YtdciiahlakgikaaDoor.Q Go.Proofs.YtdciiahlakgikaaDoorW.PrintWords Go.Proofs.YtdciiahlakgikaaDoorW.PrintLast Go.Proofs.YtdciiahlakgikaaDoorW.PrintMore
set_option linter.unusedVariables false
set_option linter.unusedSimpArgs false
theorem bq (x y : ByteArray) : (x.toList == y.toList) = decide (x = y) := by
  rw [Bool.eq_iff_iff, beq_iff_eq, toL, toL, decide_eq_true_iff]
  exact ⟨L_inj, fun h => by rw [h]⟩
instance : DecidableEq S41 := fun x y => decidable_of_iff (x.f0 = y.f0 ∧ x.f1 = y.f1 ∧ x.f2 = y.f2) (by
  obtain ⟨x0, x1, x2⟩ := x
  obtain ⟨y0, y1, y2⟩ := y
  simp)
instance : DecidableEq S60 := fun x y => decidable_of_iff (x.f0 = y.f0 ∧ x.f1 = y.f1 ∧ x.f2 = y.f2) (by
  obtain ⟨x0, x1, x2⟩ := x
  obtain ⟨y0, y1, y2⟩ := y
  simp)
theorem f41_eq (x y : S41) : (!((x.f0.toList) == (y.f0.toList)) || (!((x.f1.toList) == (y.f1.toList)) || (!((x.f2.toList) == (y.f2.toList))))) = !decide (x = y) := by
  rw [bq, bq, bq]
  obtain ⟨x0, x1, x2⟩ := x
  obtain ⟨y0, y1, y2⟩ := y
  simp only [S41.mk.injEq]
  by_cases h0 : x0 = y0 <;> by_cases h1 : x1 = y1 <;> by_cases h2 : x2 = y2 <;> simp [h0, h1, h2]
theorem f60_eq (x y : S60) : (!((x.f0.toList) == (y.f0.toList)) || (!((x.f1.toList) == (y.f1.toList)) || (!((x.f2.toList) == (y.f2.toList))))) = !decide (x = y) := by
  rw [bq, bq, bq]
  obtain ⟨x0, x1, x2⟩ := x
  obtain ⟨y0, y1, y2⟩ := y
  simp only [S60.mk.injEq]
  by_cases h0 : x0 = y0 <;> by_cases h1 : x1 = y1 <;> by_cases h2 : x2 = y2 <;> simp [h0, h1, h2]
theorem drop_dec {α : Type} [DecidableEq α] {l m : List α} {j : Nat} (h1 : j < l.length) (h2 : j < m.length) : decide (l.drop j = m.drop j) = (decide (l[j]'h1 = m[j]'h2) && decide (l.drop (j + 1) = m.drop (j + 1))) := by
  have e1 := List.drop_eq_getElem_cons h1
  have e2 := List.drop_eq_getElem_cons h2
  rw [Bool.eq_iff_iff, Bool.and_eq_true, decide_eq_true_iff, decide_eq_true_iff, decide_eq_true_iff, e1, e2, List.cons.injEq]
theorem sameG_l0 {l m : List S60} (hl : l.length ≤ 1000000) (hm : l.length = m.length) {b b2 : ByteArray} {e e2 : Bool} : ∀ (d j : Nat), j + d = l.length → Ev (fun k => postriderref07_Same.l0 k (j : Int) l b e m b2 e2) (decide (l.drop j = m.drop j)) := by
  intro d
  induction d with
  | zero =>
    intro j h
    refine Ev.eq (f := fun _ => some _) (fun k => ?_) (Ev.pure _)
    simp only [postriderref07_Same.l0]
    rw [if_neg (by omega), List.drop_eq_nil_of_le (by omega), List.drop_eq_nil_of_le (by omega)]; rfl
  | succ d ih =>
    intro j h
    have ew := w1 (n := j) (m := l.length) (by omega) (by omega)
    rw [drop_dec (by omega : j < l.length) (by omega : j < m.length)]
    by_cases e : l[j]'(by omega) = m[j]'(by omega)
    · rw [decide_eq_true e, Bool.true_and]
      refine Ev.eq (f := fun k => postriderref07_Same.l0 k ((j + 1 : Nat) : Int) l b _ m b2 e2) (fun k => ?_) (ih (j + 1) (by omega))
      simp only [postriderref07_Same.l0]
      rw [if_pos (by omega), if_pos (by omega), if_pos (by omega), f60_eq, rdT60 l j (by omega), rdT60 m j (by omega), if_neg (by simp [e]), ew]
    · rw [decide_eq_false e, Bool.false_and]
      refine Ev.eq (f := fun _ => some _) (fun k => ?_) (Ev.pure _)
      simp only [postriderref07_Same.l0]
      rw [if_pos (by omega), if_pos (by omega), if_pos (by omega), f60_eq, rdT60 l j (by omega), rdT60 m j (by omega), if_pos (by simp [e])]
theorem same_j (x : Bool) {l m : List S60} (hl : l.length ≤ 1000000) (hm : x = false → l.length = m.length) {b b2 : ByteArray} {e e2 : Bool} : Ev (fun k => postriderref07_Same.j0 k x l b e m b2 e2) (!x && decide (l = m)) := by
  cases x with
  | true => exact Ev.eq (f := fun _ => some false) (fun k => by simp only [postriderref07_Same.j0, if_true]) (Ev.pure _)
  | false =>
    refine Ev.eq (f := fun k => postriderref07_Same.l0 k ((0 : Nat) : Int) l b e m b2 e2) (fun k => by simp only [postriderref07_Same.j0, Bool.false_eq_true, if_false]; rfl) ?_
    exact sameG_l0 hl (hm rfl) l.length 0 (by omega)
theorem sameG {l m : List S60} (hl : l.length ≤ 1000000) (b b2 : ByteArray) (e e2 : Bool) : Ev (fun k => postriderref07_Same.f k l b e m b2 e2) (decide (l = m) && (decide (b = b2) && (e == e2))) := by
  unfold postriderref07_Same.f
  by_cases h : l.length = m.length
  · have h' : (l.length : Int) = (m.length : Int) := by omega
    simp only [if_pos h']
    by_cases hb : b = b2
    · have hb' : b.toList = b2.toList := by rw [hb]
      simp only [if_pos hb']
      rw [decide_eq_true hb, Bool.true_and]
      have := same_j (e != e2) (l := l) (m := m) (b := b) (b2 := b2) (e := e) (e2 := e2) hl (fun _ => h)
      rw [show (!(e != e2) && decide (l = m)) = (decide (l = m) && (e == e2)) by cases e <;> cases e2 <;> simp] at this
      exact this
    · have hb' : ¬ b.toList = b2.toList := fun x => hb (by rw [toL, toL] at x; exact L_inj x)
      simp only [if_neg hb']
      rw [decide_eq_false hb, Bool.false_and, Bool.and_false]
      exact same_j true hl (fun x => by cases x)
  · have h' : ¬ (l.length : Int) = (m.length : Int) := by omega
    simp only [if_neg h']
    rw [decide_eq_false (fun x => h (by rw [x])), Bool.false_and]
    exact same_j true hl (fun x => by cases x)
theorem cv_inj {l m : List S41} : l.map cvR = m.map cvR ↔ l = m := by
  constructor
  · intro h
    refine (List.map_inj_right (f := cvR) (fun x y e => ?_)).1 h
    · obtain ⟨x0, x1, x2⟩ := x
      obtain ⟨y0, y1, y2⟩ := y
      unfold cvR at e
      simp only [S60.mk.injEq] at e
      obtain ⟨rfl, rfl, rfl⟩ := e
      rfl
  · intro h; rw [h]
/-! ### Texts -/
theorem pre_all (l : List S41) : headPre l l.length = (l.map (·.f2.data.toList)).flatten := by
  unfold headPre; rw [List.take_length]
theorem text_f {l : List S41} {b : ByteArray} {e : Bool} (h : (headText l b e).length ≤ 100000000) (hl : l.length ≤ 100000000) (hb : b.size ≤ 100000000) : head_Message_Text.f l b e = some (B (headText l b e)) := by
  unfold head_Message_Text.f
  rw [if_pos ⟨by omega, by omega, by omega⟩]; rfl
theorem ref_text_l0 {l : List S41} {b : ByteArray} {e : Bool} (h : (headText l b e).length ≤ 100000000) (hl : l.length ≤ 100000000) (hb : b.size ≤ 100000000) : ∀ (d j : Nat), j + d = l.length → Ev (fun k => postriderref07_Text.l0 k (B (headPre l j)) (j : Int) (l.map cvR) b e) (B (headText l b e)) := by
  have hp : (headPre l l.length).length ≤ (headText l b e).length := by unfold headText; rw [List.length_append]; omega
  intro d
  induction d with
  | zero =>
    intro j hj
    obtain rfl : j = l.length := by omega
    refine Ev.eq (f := fun _ => some _) (fun k => ?_) (Ev.pure _)
    simp only [postriderref07_Text.l0]
    rw [if_neg (by rw [List.length_map]; omega)]
    cases e with
    | true =>
      rw [if_pos rfl]
      simp [headText]
    | false =>
      rw [if_neg (by simp), if_pos (by rw [B_size]; omega), show (⟨#[13, 10]⟩ : ByteArray) = B [13, 10] from rfl, B_app, if_pos (by rw [B_size, List.length_append]; simp; omega)]
      congr 1
      apply L_inj
      rw [L_app, L_B, L_B]
      simp [headText, L]
  | succ d ih =>
    intro j hj
    have ew := w1 (n := j) (m := l.length) (by omega) (by omega)
    have hs := headPre_succ l j (by omega)
    have hle := headPre_le l (j + 1)
    have hr : rd_T60 (l.map cvR) (j : Int) = cvR (rd_T41 l (j : Int)) := by
      rw [rdT60 _ j (by rw [List.length_map]; omega), rdT41 l j (by omega), List.getElem_map]
    have h2 : (cvR (rd_T41 l (j : Int))).f2 = (rd_T41 l (j : Int)).f2 := rfl
    rw [hs, List.length_append] at hle
    refine Ev.eq (f := fun k => postriderref07_Text.l0 k (B (headPre l (j + 1))) ((j + 1 : Nat) : Int) (l.map cvR) b e) (fun k => ?_) (ih (j + 1) (by omega))
    simp only [postriderref07_Text.l0]
    have hsz : (rd_T41 l (j : Int)).f2.size = (rd_T41 l (j : Int)).f2.data.toList.length := (L_len _).symm
    rw [if_pos (by rw [List.length_map]; omega), if_pos (by omega), hr, h2, if_pos (by rw [B_size, hsz]; omega), ew]
    congr 1
    apply L_inj
    rw [L_app, L_B, L_B, hs]; rfl
theorem ref_text_f {l : List S41} {b : ByteArray} {e : Bool} (h : (headText l b e).length ≤ 100000000) (hl : l.length ≤ 100000000) (hb : b.size ≤ 100000000) : Ev (fun k => postriderref07_Text.f k (l.map cvR) b e) (B (headText l b e)) := ref_text_l0 h hl hb l.length 0 (by omega)
/-! ### A message cut -/
def cutS (x : S41) : S41 := ⟨B ((L x.f0).take 300), B ((L x.f1).take 300), B ((L x.f2).take 300)⟩
theorem few_l0 {l : List S41} (hl : l.length ≤ 9223372036854775807) {b : ByteArray} {e : Bool} : ∀ (d j : Nat), j + d = l.length → Ev (fun k => postriderlaw07_Few.l0 k l (l.length : Int) (j : Int) ((l.take (min j 20)).map cutS) b e) ((l.take 20).map cutS, b, e) := by
  intro d
  induction d with
  | zero =>
    intro j h
    refine Ev.eq (f := fun _ => some _) (fun k => ?_) (Ev.pure _)
    simp only [postriderlaw07_Few.l0]
    rw [if_neg (by omega)]
    congr 3
    rw [List.take_eq_take_iff]; omega
  | succ d ih =>
    intro j h
    have hj : j < l.length := by omega
    have ew : wrap64 ((j : Int) + 1) = ((j + 1 : Nat) : Int) := by unfold wrap64; omega
    have m0 := mn_le ((l[j]'hj).f0.size : Int) 300
    have m1 := mn_le ((l[j]'hj).f1.size : Int) 300
    have m2 := mn_le ((l[j]'hj).f2.size : Int) 300
    refine Ev.eq (f := fun k => postriderlaw07_Few.l0 k l (l.length : Int) ((j + 1 : Nat) : Int) ((l.take (min (j + 1) 20)).map cutS) b e) (fun k => ?_) (ih (j + 1) (by omega))
    simp only [postriderlaw07_Few.l0]
    rw [if_pos (by omega), if_pos (by omega), if_pos (by omega), rdT41 l j hj, ew]
    by_cases h20 : j < 20
    · rw [if_pos (by omega), if_pos (by omega), if_pos (by omega), if_pos (by omega), if_pos (by omega), if_pos (by omega), if_pos (by omega), if_pos (by rw [List.length_map, List.length_take]; omega)]
      congr 1
      rw [show min j 20 = j by omega, show min (j + 1) 20 = j + 1 by omega, List.take_succ_eq_append_getElem hj, List.map_append]
      congr 1
      simp only [List.map_cons, List.map_nil, cutS]
      rw [show ((300 : Int)) = ((300 : Nat) : Int) from rfl, firsts, firsts, firsts]
    · rw [if_neg (by omega)]
      congr 1
      rw [show min j 20 = 20 by omega, show min (j + 1) 20 = 20 by omega]
theorem few_f {l : List S41} (hl : l.length ≤ 9223372036854775807) (b : ByteArray) (e : Bool) : Ev (fun k => postriderlaw07_Few.f k l b e) ((l.take 20).map cutS, B ((L b).take 600), e) := by
  have m0 := mn_le (b.size : Int) 600
  unfold postriderlaw07_Few.f
  have k1 : 0 ≤ mn (b.size : Int) 600 := by omega
  have k2 : mn (b.size : Int) 600 ≤ (b.size : Int) := by omega
  simp only [if_pos k1, if_pos k2]
  rw [show ((600 : Int)) = ((600 : Nat) : Int) from rfl, firsts]
  exact few_l0 hl l.length 0 (by omega)
theorem few_small {l : List S41} {b : ByteArray} {e : Bool} : ((l.take 20).map cutS).length ≤ 20 ∧ (∀ x ∈ (l.take 20).map cutS, x.f0.size ≤ 300 ∧ x.f1.size ≤ 300 ∧ x.f2.size ≤ 300) ∧ (B ((L b).take 600)).size ≤ 600 ∧ (headText ((l.take 20).map cutS) (B ((L b).take 600)) e).length ≤ 10000 := by
  have h1 : ((l.take 20).map cutS).length ≤ 20 := by rw [List.length_map, List.length_take]; omega
  have h2 : ∀ x ∈ (l.take 20).map cutS, x.f0.size ≤ 300 ∧ x.f1.size ≤ 300 ∧ x.f2.size ≤ 300 := by
    intro x hx
    obtain ⟨y, _, rfl⟩ := List.mem_map.1 hx
    refine ⟨?_, ?_, ?_⟩ <;> (show (B (List.take 300 _)).size ≤ 300; rw [B_size, List.length_take]; omega)
  have h3 : (B ((L b).take 600)).size ≤ 600 := by rw [B_size, List.length_take]; omega
  refine ⟨h1, h2, h3, ?_⟩
  have hp : ∀ (m : List S41), (∀ x ∈ m, x.f2.size ≤ 300) → ((m.map (·.f2.data.toList)).flatten).length ≤ 300 * m.length := by
    intro m
    induction m with
    | nil => intro _; simp
    | cons a t ih =>
      intro hm
      have h4 := ih (fun x hx => hm x (by simp [hx]))
      have h5 := hm a (by simp)
      have h6 : a.f2.data.toList.length = a.f2.size := L_len _
      simp only [List.map_cons, List.flatten_cons, List.length_append, List.length_cons]
      omega
  have h7 := hp ((l.take 20).map cutS) (fun x hx => (h2 x hx).2.2)
  unfold headText
  rw [pre_all, List.length_append]
  have h8 : (B ((L b).take 600)).data.toList.length ≤ 600 := by rw [show (B ((L b).take 600)).data.toList = L (B ((L b).take 600)) from rfl, L_len]; exact h3
  split <;> simp only [List.length_nil, List.length_cons] <;> omega
end Go.Proofs.YtdciiahlakgikaaDoor.S
