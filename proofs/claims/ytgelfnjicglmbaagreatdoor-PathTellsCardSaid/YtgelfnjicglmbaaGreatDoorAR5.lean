/- An address's text, by the document. -/
import Derived.Test.YtgelfnjicglmbaaGreatDoorAT
import Derived.Test.YtgelfnjicglmbaaGreatDoorAF6
import Derived.Test.YtgelfnjicglmbaaGreatDoorQx0
import Derived.Test.YtgelfnjicglmbaaGreatDoorQx7
namespace Go.Proofs.YtgelfnjicglmbaaGreatDoor.S
open Go.RowKit Go.Proofs.YtgelfnjicglmbaaGreatDoor.Q Go.Proofs.YtgelfnjicglmbaaGreatDoorW.PrintWords Go.Proofs.YtgelfnjicglmbaaGreatDoorW.PrintLast Go.Proofs.YtgelfnjicglmbaaGreatDoorW.PrintMore
set_option linter.unusedVariables false
set_option linter.unusedSimpArgs false
theorem ref_may_f {a b : ByteArray} (ha : a.size ≤ 1000000) (hb : b.size ≤ 1000000) : Ev (fun k => postriderref05_May.f k a b) (mayB (L a) (L b)) := by
 have hL := L_len a
 unfold postriderref05_May.f mayB
 cases e : L a with
 | nil =>
  rw [e] at hL
  refine Ev.cong (fun k => if_neg (by simp at hL; omega)) ?_
  exact Ev.pure _
 | cons c t =>
  rw [e] at hL
  rw [List.length_cons] at hL
  refine Ev.cong (fun k => if_pos (by omega)) ?_
  by_cases h : a.size ≤ 64
  ·refine Ev.cong (fun k => if_pos (by omega)) ?_
   have hp := ref_plain_F (s := a) (by omega)
   rw [e] at hp
   refine Ev.bind2 hp ?_
   rw [decide_eq_true (by rw [List.length_cons]; omega : (c :: t).length ≤ 64)]
   by_cases h2 : (c :: t).all plC = true
   ·refine Ev.cong (fun k => if_pos h2) ?_
    rw [h2]
    refine Ev.bind2 (ref_domain_f hb) ?_
    rw [dec0]
    exact Ev.pure _
   ·refine Ev.cong (fun k => if_neg h2) ?_
    rw [Bool.eq_false_iff.mpr h2]
    exact Ev.pure _
  ·refine Ev.cong (fun k => if_neg (by omega)) ?_
   rw [decide_eq_false (by rw [List.length_cons]; omega)]
   exact Ev.pure _
theorem ref_atext_f {a b : ByteArray} (ha : a.size ≤ 1000000) (hb : b.size ≤ 1000000) : Ev (fun k => postriderref05_Text.f k a b) (B (txA (L a) (L b))) := by
 have hL := L_len a
 have hLb := L_len b
 have hq := qtM_len (L a)
 unfold postriderref05_Text.f txA
 refine Ev.bind2 (ref_may_f ha hb) ?_
 by_cases hm : mayB (L a) (L b) = true
 ·refine Ev.cong (fun k => if_pos hm) ?_
  rw [if_pos hm]
  refine Ev.bind2 (ref_dot_f (by omega)) ?_
  unfold wdT5
  by_cases hd : dtL (L a) true = true
  ·refine Ev.cong (fun k => if_pos hd) ?_
   rw [if_pos hd]
   refine Ev.cong (fun k => if_pos (by omega)) ?_
   refine Ev.cong (fun k => if_pos (by rw [atB, app_B, B_size, List.length_append, List.length_singleton]; omega)) ?_
   have e : (a ++ (⟨#[64]⟩ : ByteArray)) ++ b = B (L a ++ (64 :: L b)) := by
    refine L_inj ?_
    rw [L_app, L_app, L_B, atB, L_B]; simp
   rw [e]
   exact Ev.pure _
  ·refine Ev.cong (fun k => if_neg hd) ?_
   rw [if_neg hd]
   have hp : (L a).all plC = true := by
    unfold mayB at hm
    simp only [Bool.and_eq_true] at hm
    exact hm.2.2.1
   have hqf := ref_quote_f (s := a) (by omega)
   rw [if_pos hp] at hqf
   refine Ev.bind2 hqf ?_
   refine Ev.cong (fun k => if_pos (by rw [B_size]; simp only [List.length_cons, List.length_append, List.length_nil]; omega)) ?_
   refine Ev.cong (fun k => if_pos (by rw [atB, B_app, B_size]; simp only [List.length_cons, List.length_append, List.length_nil]; omega)) ?_
   have e : (B (34 :: (qtM (L a) ++ [34])) ++ (⟨#[64]⟩ : ByteArray)) ++ b = B ((34 :: (qtM (L a) ++ [34])) ++ (64 :: L b)) := by
    refine L_inj ?_
    rw [L_app, L_app, L_B, atB, L_B, L_B]; simp
   dsimp only
   rw [e]
   exact Ev.pure _
 ·refine Ev.cong (fun k => if_neg hm) ?_
  rw [if_neg hm]
  exact Ev.pure _
end Go.Proofs.YtgelfnjicglmbaaGreatDoor.S
