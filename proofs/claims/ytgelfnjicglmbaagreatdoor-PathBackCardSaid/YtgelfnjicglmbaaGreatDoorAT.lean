/- An address's text, by the program. -/
import Derived.Test.YtgelfnjicglmbaaGreatDoorAD6
import Derived.Test.YtgelfnjicglmbaaGreatDoorQx0
namespace Go.Proofs.YtgelfnjicglmbaaGreatDoor.S
open Go.RowKit Go.Proofs.YtgelfnjicglmbaaGreatDoor.Q Go.Proofs.YtgelfnjicglmbaaGreatDoorW.PrintWords Go.Proofs.YtgelfnjicglmbaaGreatDoorW.PrintLast Go.Proofs.YtgelfnjicglmbaaGreatDoorW.PrintMore
set_option linter.unusedVariables false
set_option linter.unusedSimpArgs false
/-- May an address be? -/
def mayB (a b : List UInt8) : Bool := !a.isEmpty && (decide (a.length ≤ 64) && (a.all plC && decide (dmL b = 0)))
/-- An address's text. -/
def wdT5 (a : List UInt8) : List UInt8 := if dtL a true = true then a else 34 :: (qtM a ++ [34])
def txA (a b : List UInt8) : List UInt8 := if mayB a b = true then wdT5 a ++ (64 :: b) else []
theorem qtM_len : ∀ a : List UInt8, (qtM a).length ≤ 2 * a.length := by
 intro a
 induction a with
 | nil => simp [qtM]
 | cons c t ih =>
  have : qtM (c :: t) = qtC c ++ qtM t := by simp [qtM]
  rw [this, List.length_append, List.length_cons]
  have : (qtC c).length ≤ 2 := by unfold qtC; split <;> simp
  omega
theorem wd_len5 (a : List UInt8) : (wdT5 a).length ≤ 2 * a.length + 2 := by
 unfold wdT5
 split
 ·omega
 ·have := qtM_len a
  simp only [List.length_cons, List.length_append, List.length_nil]
  omega
theorem tx_len (a b : List UInt8) : (txA a b).length ≤ 2 * a.length + b.length + 3 := by
 unfold txA
 have := wd_len5 a
 split
 ·rw [List.length_append, List.length_cons]; omega
 ·simp
theorem dec0 (n : Nat) : ((n : Int) == 0) = decide (n = 0) := by
 by_cases h : n = 0
 ·subst h; rfl
 ·rw [decide_eq_false h]; exact beq_eq_false_iff_ne.mpr (by omega)
theorem may_f {a b : ByteArray} (ha : a.size ≤ 1000000) (hb : b.size ≤ 1000000) : addr_May.f a b = some (mayB (L a) (L b)) := by
 have hL := L_len a
 unfold addr_May.f mayB
 rw [toL]
 cases e : L a with
 | nil => rw [if_pos rfl]; rfl
 | cons c t =>
  rw [e] at hL
  rw [if_neg (by simp)]
  by_cases h : a.size ≤ 64
  ·rw [if_pos (by omega), show text_Plain.f a = some ((L a).all plC) from rfl, Option.bind_some, e]
   rw [decide_eq_true (by omega : (c :: t).length ≤ 64)]
   by_cases h2 : (c :: t).all plC = true
   ·rw [if_pos h2, h2]
    unfold addr_MayDomain.f
    rw [domain_f hb, Option.bind_some, Option.bind_some, dec0]
    rfl
   ·rw [if_neg h2, Bool.eq_false_iff.mpr h2]; rfl
  ·rw [if_neg (by omega), decide_eq_false (by omega)]; rfl
theorem atB : (⟨#[64]⟩ : ByteArray) = B [64] := rfl
theorem atext_f {a b : ByteArray} (ha : a.size ≤ 1000000) (hb : b.size ≤ 1000000) : Ev (fun k => addr_Text.f k a b) (B (txA (L a) (L b))) := by
 have hL := L_len a
 have hLb := L_len b
 have hq := qtM_len (L a)
 unfold addr_Text.f txA
 refine Ev.bindc (may_f ha hb) ?_
 by_cases hm : mayB (L a) (L b) = true
 ·refine Ev.cong (fun k => if_pos hm) ?_
  rw [if_pos hm]
  refine Ev.bind2 (dot_f (by omega)) ?_
  unfold wdT5
  by_cases hd : dtL (L a) true = true
  ·refine Ev.cong (fun k => if_pos hd) ?_
   rw [if_pos hd]
   refine Ev.cong (fun k => if_pos (by omega)) ?_
   refine Ev.cong (fun k => if_pos (by rw [atB, app_B, B_size, List.length_append, List.length_singleton]; omega)) ?_
   have e : (a ++ (⟨#[64]⟩ : ByteArray)) ++ b = B (L a ++ (64 :: L b)) := by
    refine L_inj ?_
    rw [L_app, L_app, L_B, atB, L_B]; simp
   rw [e]
   exact Ev.pure _
  ·refine Ev.cong (fun k => if_neg hd) ?_
   rw [if_neg hd]
   have hp : (L a).all plC = true := by
    unfold mayB at hm
    simp only [Bool.and_eq_true] at hm
    exact hm.2.2.1
   refine Ev.bindc (quote_f (by omega)) ?_
   rw [if_pos hp]
   refine Ev.cong (fun k => if_pos (by rw [B_size]; simp only [List.length_cons, List.length_append, List.length_nil]; omega)) ?_
   refine Ev.cong (fun k => if_pos (by rw [atB, B_app, B_size]; simp only [List.length_cons, List.length_append, List.length_nil]; omega)) ?_
   have e : (B (34 :: (qtM (L a) ++ [34])) ++ (⟨#[64]⟩ : ByteArray)) ++ b = B ((34 :: (qtM (L a) ++ [34])) ++ (64 :: L b)) := by
    refine L_inj ?_
    rw [L_app, L_app, L_B, atB, L_B, L_B]; simp
   dsimp only
   rw [e]
   exact Ev.pure _
 ·refine Ev.cong (fun k => if_neg hm) ?_
  rw [if_neg hm]
  exact Ev.pure _
end Go.Proofs.YtgelfnjicglmbaaGreatDoor.S
