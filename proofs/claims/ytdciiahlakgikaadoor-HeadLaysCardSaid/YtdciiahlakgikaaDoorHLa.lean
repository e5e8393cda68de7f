/- A message, as the law turns it to the document's own; the law's example. -/
import Derived.Test.YtdciiahlakgikaaDoorHRa
import Derived.Test.YtdciiahlakgikaaDoorQx0
import Derived.Test.YtdciiahlakgikaaDoorQx5
namespace Go.Proofs.YtdciiahlakgikaaDoor.S
open Go.RowKit Go.Proofs.YtdciiahlakgikaaDoor.Q Go.Proofs.YtdciiahlakgikaaDoorW.PrintWords Go.Proofs.YtdciiahlakgikaaDoorW.PrintLast Go.Proofs.YtdciiahlakgikaaDoorW.PrintMore
set_option linter.unusedVariables false
set_option linter.unusedSimpArgs false
def cvR (x : S41) : S60 := ⟨x.f0, x.f1, x.f2⟩
theorem cv_mk (f : Fld) : cvR (mkS f) = mkR f := rfl
theorem rdT41 (l : List S41) (j : Nat) (h : j < l.length) : rd_T41 l (j : Int) = l[j]'h := by
  unfold rd_T41
  rw [Int.toNat_natCast, List.getD_eq_getElem?_getD, List.getElem?_eq_getElem h]; rfl
theorem rdT60 (l : List S60) (j : Nat) (h : j < l.length) : rd_T60 l (j : Int) = l[j]'h := by
  unfold rd_T60
  rw [Int.toNat_natCast, List.getD_eq_getElem?_getD, List.getElem?_eq_getElem h]; rfl
theorem of_l0 {l : List S41} (hl : l.length ≤ 1000000) {body : ByteArray} {early : Bool} : ∀ (d j : Nat), j + d = l.length → Ev (fun k => postriderlaw07_Of.l0 k l (l.length : Int) (j : Int) ((l.take j).map cvR) body early) (l.map cvR, body, early) := by
  intro d
  induction d with
  | zero =>
    intro j h
    refine Ev.eq (f := fun _ => some _) (fun k => ?_) (Ev.pure _)
    simp only [postriderlaw07_Of.l0]
    rw [if_neg (by omega), List.take_of_length_le (by omega)]
  | succ d ih =>
    intro j h
    have hj : j < l.length := by omega
    have ew := w1 (n := j) (m := l.length) hj (by omega)
    have e : (l.take (j + 1)).map cvR = (l.take j).map cvR ++ [(⟨(l[j]'hj).f0, (l[j]'hj).f1, (l[j]'hj).f2⟩ : S60)] := by
      rw [List.take_succ_eq_append_getElem hj, List.map_append]; rfl
    refine Ev.eq (f := fun k => postriderlaw07_Of.l0 k l (l.length : Int) ((j + 1 : Nat) : Int) ((l.take (j + 1)).map cvR) body early) (fun k => ?_) (ih (j + 1) (by omega))
    simp only [postriderlaw07_Of.l0]
    rw [if_pos (by omega), if_pos (by omega), if_pos (by omega), if_pos (by rw [List.length_map, List.length_take]; omega), rdT41 l j hj, ew, e]
theorem of_f {l : List S41} (hl : l.length ≤ 1000000) (body : ByteArray) (early : Bool) : Ev (fun k => postriderlaw07_Of.f k l body early) (l.map cvR, body, early) := of_l0 hl l.length 0 (by omega)
theorem same_l0 {l : List S60} (hl : l.length ≤ 1000000) {b b2 : ByteArray} {e e2 : Bool} : ∀ (d j : Nat), j + d = l.length → Ev (fun k => postriderref07_Same.l0 k (j : Int) l b e l b2 e2) true := by
  intro d
  induction d with
  | zero =>
    intro j h
    refine Ev.eq (f := fun _ => some _) (fun k => ?_) (Ev.pure _)
    simp only [postriderref07_Same.l0]
    rw [if_neg (by omega)]
  | succ d ih =>
    intro j h
    have ew := w1 (n := j) (m := l.length) (by omega) (by omega)
    refine Ev.eq (f := fun k => postriderref07_Same.l0 k ((j + 1 : Nat) : Int) l b e l b2 e2) (fun k => ?_) (ih (j + 1) (by omega))
    simp only [postriderref07_Same.l0]
    rw [if_pos (by omega), if_pos (by omega), if_pos (by omega), if_neg (by simp), ew]
theorem same_eq {l : List S60} (hl : l.length ≤ 1000000) (b : ByteArray) (e : Bool) : Ev (fun k => postriderref07_Same.f k l b e l b e) true := by
  unfold postriderref07_Same.f
  simp only [if_true, bne_self_eq_false]
  refine Ev.eq (f := fun k => postriderref07_Same.l0 k ((0 : Nat) : Int) l b e l b e) (fun k => ?_) (same_l0 hl l.length 0 (by omega))
  simp only [postriderref07_Same.j0, Bool.false_eq_true, if_false]
  rfl
theorem wakes_f : Ev (fun k => postriderlaw07_wakes.f k) true := Ev.of (k := 60) (fun k => postriderlaw07_wakes.mono k) (by decide +kernel)
end Go.Proofs.YtdciiahlakgikaaDoor.S
