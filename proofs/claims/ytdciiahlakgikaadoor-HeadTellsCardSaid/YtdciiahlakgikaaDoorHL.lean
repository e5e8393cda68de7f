/- A message, as the law turns it to the document's own; the law's example. -/
import Derived.Test.YtdciiahlakgikaaDoorHR
import Derived.Test.YtdciiahlakgikaaDoorQx9
namespace Go.Proofs.YtdciiahlakgikaaDoor.S
open Go.RowKit Go.Proofs.YtdciiahlakgikaaDoor.Q Go.Proofs.YtdciiahlakgikaaDoorW.PrintWords Go.Proofs.YtdciiahlakgikaaDoorW.PrintLast Go.Proofs.YtdciiahlakgikaaDoorW.PrintMore
set_option linter.unusedVariables false
set_option linter.unusedSimpArgs false
def cvR (x : S41) : S60 := ⟨x.f0, x.f1, x.f2⟩
theorem cv_mk (f : Fld) : cvR (mkS f) = mkR f := rfl
theorem rdT41 (l : List S41) (j : Nat) (h : j < l.length) : rd_T41 l (j : Int) = l[j]'h := by
  unfold rd_T41
  rw [Int.toNat_natCast, List.getD_eq_getElem?_getD, List.getElem?_eq_getElem h]; rfl
theorem rdT60 (l : List S60) (j : Nat) (h : j < l.length) : rd_T60 l (j : Int) = l[j]'h := by
  unfold rd_T60
  rw [Int.toNat_natCast, List.getD_eq_getElem?_getD, List.getElem?_eq_getElem h]; rfl
theorem of_l0 {l : List S41} (hl : l.length ≤ 1000000) {body : ByteArray} {early : Bool} : ∀ (d j : Nat), j + d = l.length → Ev (fun k => postriderlaw07_Of.l0 k l (l.length : Int) (j : Int) ((l.take j).map cvR) body early) (l.map cvR, body, early) := by
  intro d
  induction d with
  | zero =>
    intro j h
    refine Ev.eq (f := fun _ => some _) (fun k => ?_) (Ev.pure _)
    simp only [postriderlaw07_Of.l0]
    rw [if_neg (by omega), List.take_of_length_le (by omega)]
  | succ d ih =>
    intro j h
    have hj : j < l.length := by omega
    have ew := w1 (n := j) (m := l.length) hj (by omega)
    have e : (l.take (j + 1)).map cvR = (l.take j).map cvR ++ [(⟨(l[j]'hj).f0, (l[j]'hj).f1, (l[j]'hj).f2⟩ : S60)] := by
      rw [List.take_succ_eq_append_getElem hj, List.map_append]; rfl
    refine Ev.eq (f := fun k => postriderlaw07_Of.l0 k l (l.length : Int) ((j + 1 : Nat) : Int) ((l.take (j + 1)).map cvR) body early) (fun k => ?_) (ih (j + 1) (by omega))
    simp only [postriderlaw07_Of.l0]
    rw [if_pos (by omega), if_pos (by omega), if_pos (by omega), if_pos (by rw [List.length_map, List.length_take]; omega), rdT41 l j hj, ew, e]
theorem of_f {l : List S41} (hl : l.length ≤ 1000000) (body : ByteArray) (early : Bool) : Ev (fun k => postriderlaw07_Of.f k l body early) (l.map cvR, body, early) := of_l0 hl l.length 0 (by omega)
theorem same_l0 {l : List S60} (hl : l.length ≤ 1000000) {b b2 : ByteArray} {e e2 : Bool} : ∀ (d j : Nat), j + d = l.length → Ev (fun k => postriderref07_Same.l0 k (j : Int) l b e l b2 e2) true := by
  intro d
  induction d with
  | zero =>
    intro j h
    refine Ev.eq (f := fun _ => some _) (fun k => ?_) (Ev.pure _)
    simp only [postriderref07_Same.l0]
    rw [if_neg (by omega)]
  | succ d ih =>
    intro j h
    have ew := w1 (n := j) (m := l.length) (by omega) (by omega)
    refine Ev.eq (f := fun k => postriderref07_Same.l0 k ((j + 1 : Nat) : Int) l b e l b2 e2) (fun k => ?_) (ih (j + 1) (by omega))
    simp only [postriderref07_Same.l0]
    rw [if_pos (by omega), if_pos (by omega), if_pos (by omega), if_neg (by simp), ew]
theorem same_eq {l : List S60} (hl : l.length ≤ 1000000) (b : ByteArray) (e : Bool) : Ev (fun k => postriderref07_Same.f k l b e l b e) true := by
  unfold postriderref07_Same.f
  simp only [if_true, bne_self_eq_false]
  refine Ev.eq (f := fun k => postriderref07_Same.l0 k ((0 : Nat) : Int) l b e l b e) (fun k => ?_) (same_l0 hl l.length 0 (by omega))
  simp only [postriderref07_Same.j0, Bool.false_eq_true, if_false]
  rfl
theorem wakes_f : Ev (fun k => postriderlaw07_wakes.f k) true := Ev.of (k := 60) (fun k => postriderlaw07_wakes.mono k) (by decide +kernel)
/-- Both messages of a text, of one make. -/
theorem both_parse (s : ByteArray) : ∃ (fs : List Fld) (b : ByteArray) (e : Bool) (c : Int), fs.length ≤ 10000 ∧ Ev (fun k => head_Parse.f k s) (fs.map mkS, b, e, c) ∧ Ev (fun k => postriderref07_Parse.f k s) (fs.map mkR, b, e, c) := by
  have h1 := parse_f (s := s)
  have h2 := ref_parse_f (s := s)
  by_cases hs : s.size > 8192
  · rw [if_pos hs] at h1 h2
    exact ⟨[], _, _, _, by simp, h1, h2⟩
  · rw [if_neg hs] at h1 h2
    cases hm : msS (L s) with
    | none => rw [hm] at h1 h2; exact ⟨[], _, _, _, by simp, h1, h2⟩
    | some m =>
      rw [hm] at h1 h2
      refine ⟨m.1, B m.2.1, m.2.2, 0, ?_, h1, h2⟩
      have hl := L_len s
      unfold msS at hm
      obtain ⟨ls, hls, hml⟩ := Option.bind_eq_some_iff.1 hm
      obtain ⟨g1, g2⟩ := lnG_some _ _ ls (Nat.le_refl _) hls
      have hc := flat_count ls
      rw [← g1] at hc
      have hfs : ∀ (N : Nat) (ls : List (List UInt8)) (m : List Fld × List UInt8 × Bool), ls.length ≤ N → msL ls = some m → m.1.length ≤ ls.length := by
        intro N
        induction N with
        | zero =>
          intro ls m h he
          obtain rfl : ls = [] := List.eq_nil_of_length_eq_zero (by omega)
          rw [msL_nil] at he
          obtain rfl := Option.some.inj he
          simp
        | succ N ih =>
          intro ls m h he
          cases ls with
          | nil => rw [msL_nil] at he; obtain rfl := Option.some.inj he; simp
          | cons a t =>
            by_cases ha : a = []
            · subst ha; rw [msL_end] at he; obtain rfl := Option.some.inj he; simp
            · rw [msL_cons ha] at he
              split at he
              · obtain ⟨m', h1, rfl⟩ := Option.map_eq_some_iff.1 he
                have hd := (List.dropWhile_suffix (l := t) whL).length_le
                simp only [List.length_cons] at h ⊢
                have := ih (t.dropWhile whL) m' (by omega) h1
                omega
              · cases he
      have := hfs ls.length ls m (Nat.le_refl _) hml
      omega
end Go.Proofs.YtdciiahlakgikaaDoor.S
