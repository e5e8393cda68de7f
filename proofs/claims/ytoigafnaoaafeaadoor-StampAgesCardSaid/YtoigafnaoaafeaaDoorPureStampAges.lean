/- Of any day (brought to 2^40), any later day and any text: a day's own stamp is read as its number, in great letters or small ones; its age is 0 on the day and n on the day that is n later; two days have one stamp just if they are a multiple of 1024 apart; what is read of a text has that text's great letters. -/
import Derived.Test.YtoigafnaoaafeaaDoorPA
import Derived.Test.YtoigafnaoaafeaaDoorQx5
namespace Go.Proofs.YtoigafnaoaafeaaDoor.Pure
open Go.RowKit Go.Proofs.YtoigafnaoaafeaaDoor.Q Go.Proofs.YtoigafnaoaafeaaDoor.S Go.Proofs.YtoigafnaoaafeaaDoorW.PrintWords Go.Proofs.YtoigafnaoaafeaaDoorW.PrintLast Go.Proofs.YtoigafnaoaafeaaDoorW.PrintMore
set_option linter.unusedVariables false
set_option linter.unusedSimpArgs false
theorem dy_in {d : Int} (h : 0 ≤ d) : dyT d = d % 1024 := by unfold dyT; omega
theorem ages_j0 {d x1 : Int} {s : ByteArray} (h0 : 0 ≤ d) (h1 : d < 1099511627776) (g0 : 0 ≤ x1) (g1 : x1 < 65536) (hs : s.size ≤ 140737488351232) : Ev (fun k => postriderlaw09_StampAges.j0 k d x1 s false) true := by
  obtain ⟨z, hz⟩ : ∃ z, z = s.extract 0 ((mn (s.size : Int) 10) : Int).toNat := ⟨_, rfl⟩
  have hm := mn_le (s.size : Int) 10
  have hzs : z.size ≤ 10 := by rw [hz, ByteArray.size_extract]; omega
  have e1 : wrap64 x1 = x1 := wk (by omega) (by omega)
  have e2 : wrap64 (d + x1) = d + x1 := wk (by omega) (by omega)
  have hp := parse_f z
  refine Ev.eq (f := fun k => (stamp_Parse.f k z).bind fun bt199 => (if bt199.2 = 0 then ((stamp_Text.f bt199.1).bind fun t201 => ((strings_ToUpper.f z).bind fun t202 => (if t201.toList = t202.toList then ((postriderlaw09_wakes.f k).bind fun t203 => (some t203)) else (some false)))) else (if bt199.1 = 0 then (if bt199.2 = 5 then ((postriderlaw09_wakes.f k).bind fun t204 => (some t204)) else (some false)) else (some false)))) (fun k => ?_) ?_
  · simp only [postriderlaw09_StampAges.j0]
    rw [if_neg (by simp), text_f, Option.bind_some, e1, e2, text_f, Option.bind_some, if_neg ?_, if_pos (by omega), if_pos (by omega), ← hz]
    rw [tm g0, dy_in h0, dy_in (by omega), toL, toL, L_B, L_B]
    by_cases c : x1 % 1024 = 0
    · rw [show (d + x1) % 1024 = d % 1024 by omega, c]; simp
    · have hne : stL (d % 1024) ≠ stL ((d + x1) % 1024) := fun h => by
        have := stL_inj (by omega) (by omega) (by omega) (by omega) h
        omega
      have a1 : (stL (d % 1024) == stL ((d + x1) % 1024)) = false := beq_eq_false_iff_ne.mpr hne
      have a2 : (x1 % 1024 == 0) = false := beq_eq_false_iff_ne.mpr c
      rw [a1, a2]; simp
  · refine Ev.bind2 hp ?_
    obtain ⟨x, y, hxy⟩ : ∃ x y, prS (L z) = (x, y) := ⟨_, _, rfl⟩
    rw [hxy]
    by_cases c : y = 0
    · subst c
      obtain ⟨p1, p2, p3, p4, p5⟩ := prS_ok hxy
      simp only [if_true]
      refine Ev.bindc (text_f x) ?_
      refine Ev.bindc (a := B (Lib.toUpperA (L z))) ?_ ?_
      · unfold strings_ToUpper.f
        rw [if_pos ⟨by omega, p4⟩]; rfl
      · rw [show dyT x = x by rw [dy_in p1]; omega, p5]
        simp only [if_true]
        exact Ev.bind2 wakes_f (Ev.pure _)
    · obtain ⟨rfl, rfl⟩ := prS_no hxy c
      simp only [show ¬ ((5 : Int) = 0) by omega, if_false, if_true]
      exact Ev.bind2 wakes_f (Ev.pure _)
theorem StampAges : postriderlaw09_StampAges.Pure := by
  intro a0 a1 a2 h0 h1 h2
  have hb : -9223372036854775808 ≤ a0 ∧ a0 ≤ 9223372036854775807 := by simpa [Lit.wf, IntKind.min, IntKind.max, IntKind.signed, IntKind.bits] using h0
  have hc : 0 ≤ a1 ∧ a1 ≤ 65535 := by simpa [Lit.wf, IntKind.min, IntKind.max, IntKind.signed, IntKind.bits] using h1
  apply Ev.to
  unfold postriderlaw09_StampAges.f
  obtain ⟨u, hu⟩ : ∃ u, IntKind.u64.wrap a0 = u := ⟨_, rfl⟩
  have hu0 : 0 ≤ u := by rw [← hu]; unfold IntKind.wrap; simp [IntKind.signed, IntKind.bits]; omega
  rw [hu, tm hu0, wk (x := u % 1099511627776) (by omega) (by omega)]
  obtain ⟨d, hd⟩ : ∃ d, u % 1099511627776 = d := ⟨_, rfl⟩
  rw [hd]
  have r0 : 0 ≤ d := by omega
  have r1 : d < 1099511627776 := by omega
  clear hd hu hu0
  have hdy := dyT_range d
  have hn : dyT d = d % 1024 := dy_in r0
  have e1 : Int.tmod d 1024 = d % 1024 := tm r0
  have e2 : wrap64 (Int.tmod a1 1024) = a1 % 1024 := by rw [tm hc.1, wk (by omega) (by omega)]
  have e3 : wrap64 (d + a1 % 1024) = d + a1 % 1024 := wk (by omega) (by omega)
  rw [e1, e2, e3]
  refine Ev.bindc (text_f d) ?_
  refine Ev.bind2 (parse_f _) ?_
  rw [L_B, prS_st hdy.1 hdy.2]
  refine Ev.bindc (text_f d) ?_
  refine Ev.bindc (a := B (Lib.toLowerA (stL (dyT d)))) ?_ ?_
  · unfold strings_ToLower.f
    have hL : (B (stL (dyT d))).data.toList = stL (dyT d) := L_B _
    rw [hL, if_pos ⟨by rw [bsz]; show 2 ≤ _; omega, stL_small hdy.1 hdy.2⟩]; rfl
  refine Ev.bind2 (parse_f _) ?_
  rw [L_B, prS_lower hdy.1 hdy.2, hn]
  simp only [if_true]
  refine Ev.bindc (age_f _ _) ?_
  have g1 : agT (d % 1024) d = 0 := by unfold agT; rw [hn, dy_in (by omega)]; omega
  have g2 : agT (d % 1024) (d + a1 % 1024) = a1 % 1024 := by unfold agT; rw [dy_in (by omega), dy_in (by omega)]; omega
  rw [g1]
  simp only [if_true]
  refine Ev.bindc (age_f _ _) ?_
  rw [g2]
  simp only [bne_self_eq_false]
  exact ages_j0 r0 r1 hc.1 (by omega) h2
end Go.Proofs.YtoigafnaoaafeaaDoor.Pure
