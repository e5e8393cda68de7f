/- A path's text is told as the document says, of any path (an address of at most 300 bytes in each part). -/
import Derived.Test.YtgelfnjicglmbaaGreatDoorAR5
import Derived.Test.YtgelfnjicglmbaaGreatDoorQx14
import Derived.Test.YtgelfnjicglmbaaGreatDoorQx0
import Derived.Test.YtgelfnjicglmbaaGreatDoorQx7
namespace Go.Proofs.YtgelfnjicglmbaaGreatDoor.Pure
open Go.RowKit Go.Proofs.YtgelfnjicglmbaaGreatDoor.Q Go.Proofs.YtgelfnjicglmbaaGreatDoor.S Go.Proofs.YtgelfnjicglmbaaGreatDoorW.PrintWords Go.Proofs.YtgelfnjicglmbaaGreatDoorW.PrintLast Go.Proofs.YtgelfnjicglmbaaGreatDoorW.PrintMore
set_option linter.unusedVariables false
set_option linter.unusedSimpArgs false
set_option maxRecDepth 100000 in
theorem tells_t : Ev (fun k => postriderlaw06_tells.f k) true := Ev.of postriderlaw06_tells.mono (k := 60) (by decide +kernel)
theorem PathTells : postriderlaw06_PathTells.Pure := by
 intro nul post l a b hl _ ha hb
 have m0 := mn_le (a.size : Int) 300
 have m1 := mn_le (b.size : Int) 300
 have k1 : 0 ≤ mn (a.size : Int) 300 := by omega
 have k2 : mn (a.size : Int) 300 ≤ (a.size : Int) := by omega
 have k3 : 0 ≤ mn (b.size : Int) 300 := by omega
 have k4 : mn (b.size : Int) 300 ≤ (b.size : Int) := by omega
 apply Ev.to
 unfold postriderlaw06_PathTells.f
 simp only [if_pos k1, if_pos k2, if_pos k3, if_pos k4]
 obtain ⟨x, hx⟩ : ∃ x, x = a.extract 0 ((mn (a.size : Int) 300) : Int).toNat := ⟨_, rfl⟩
 obtain ⟨y, hy⟩ : ∃ y, y = b.extract 0 ((mn (b.size : Int) 300) : Int).toNat := ⟨_, rfl⟩
 have hxz : x.size ≤ 1000000 := by rw [hx, ← L_len, L_ext, List.length_take]; omega
 have hyz : y.size ≤ 1000000 := by rw [hy, ← L_len, L_ext, List.length_take]; omega
 have hLx := L_len x
 have hLy := L_len y
 have ht := tx_len (L x) (L y)
 rw [← hx, ← hy]
 have key : ∃ r, Ev (fun k => path_Path_Text.f k nul post l x y) r ∧ Ev (fun k => postriderref06_Text.f k nul post l x y) r := by
  unfold path_Path_Text.f postriderref06_Text.f
  cases nul
  ·cases post
   ·have c1 : 1 + (B (txA (L x) (L y))).size ≤ 9223372036854775807 := by rw [B_size]; omega
    have c2 : ((⟨#[60]⟩ : ByteArray) ++ B (txA (L x) (L y))).size + 1 ≤ 9223372036854775807 := by
     rw [show (⟨#[60]⟩ : ByteArray) = B [60] from rfl, B_app, B_size]; simp only [List.length_append, List.length_cons, List.length_nil]; omega
    by_cases hm : mayB (L x) (L y) = true
    ·refine ⟨((⟨#[60]⟩ : ByteArray) ++ B (txA (L x) (L y))) ++ (⟨#[62]⟩ : ByteArray), ?_, ?_⟩
     ·refine Ev.cong (fun k => if_neg (by decide)) (Ev.cong (fun k => if_neg (by decide)) ?_)
      refine Ev.bindc (may_f hxz hyz) ?_
      refine Ev.cong (fun k => if_pos hm) ?_
      refine Ev.bind2 (atext_f hxz hyz) ?_
      exact Ev.cong (fun k => if_pos c1) (Ev.cong (fun k => if_pos c2) (Ev.pure _))
     ·refine Ev.cong (fun k => if_neg (by decide)) (Ev.cong (fun k => if_neg (by decide)) ?_)
      refine Ev.bind2 (ref_may_f hxz hyz) ?_
      refine Ev.cong (fun k => if_pos hm) ?_
      refine Ev.bind2 (ref_atext_f hxz hyz) ?_
      exact Ev.cong (fun k => if_pos c1) (Ev.cong (fun k => if_pos c2) (Ev.pure _))
    ·refine ⟨(⟨#[]⟩ : ByteArray), ?_, ?_⟩
     ·refine Ev.cong (fun k => if_neg (by decide)) (Ev.cong (fun k => if_neg (by decide)) ?_)
      refine Ev.bindc (may_f hxz hyz) ?_
      exact Ev.cong (fun k => if_neg hm) (Ev.pure _)
     ·refine Ev.cong (fun k => if_neg (by decide)) (Ev.cong (fun k => if_neg (by decide)) ?_)
      refine Ev.bind2 (ref_may_f hxz hyz) ?_
      exact Ev.cong (fun k => if_neg hm) (Ev.pure _)
   ·exact ⟨_, Ev.cong (fun k => if_neg (by decide)) (Ev.cong (fun k => if_pos rfl) (Ev.pure _)), Ev.cong (fun k => if_neg (by decide)) (Ev.cong (fun k => if_pos rfl) (Ev.pure _))⟩
  ·exact ⟨_, Ev.cong (fun k => if_pos rfl) (Ev.pure _), Ev.cong (fun k => if_pos rfl) (Ev.pure _)⟩
 obtain ⟨r, p1, p2⟩ := key
 refine Ev.bind2 p1 ?_
 refine Ev.bindc (a := (nul, post, l, x, y)) rfl ?_
 refine Ev.bind2 p2 ?_
 refine Ev.cong (fun k => if_pos rfl) ?_
 exact Ev.bind2 tells_t (Ev.pure _)
end Go.Proofs.YtgelfnjicglmbaaGreatDoor.Pure
