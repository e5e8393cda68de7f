/- Of any tick, any day and any number: the day, the stamp, the age and the date that the program tells are those that the document tells. -/
import Derived.Test.YtoigafnaoaafeaaDoorP
import Derived.Test.YtoigafnaoaafeaaDoorQx4
namespace Go.Proofs.YtoigafnaoaafeaaDoor.Pure
open Go.RowKit Go.Proofs.YtoigafnaoaafeaaDoor.Q Go.Proofs.YtoigafnaoaafeaaDoor.S Go.Proofs.YtoigafnaoaafeaaDoorW.PrintWords Go.Proofs.YtoigafnaoaafeaaDoorW.PrintLast Go.Proofs.YtoigafnaoaafeaaDoorW.PrintMore
set_option linter.unusedVariables false
set_option linter.unusedSimpArgs false
theorem StampTells : postriderlaw09_StampTells.Pure := by
  intro a0 a1 a2 h0 h1 h2
  have hb : -9223372036854775808 ≤ a1 ∧ a1 ≤ 9223372036854775807 := by simpa [Lit.wf, IntKind.min, IntKind.max, IntKind.signed, IntKind.bits] using h1
  obtain ⟨y, m, d, H, e1, e2⟩ := date_is a0
  apply Ev.to
  unfold postriderlaw09_StampTells.f
  refine Ev.bindc (day_f a0) (Ev.bindc (ref_day_f a0) ?_)
  simp only [if_true]
  refine Ev.bindc (text_f a1) (Ev.bindc (ref_text_f hb.1 hb.2) ?_)
  simp only [if_true]
  refine Ev.bindc (age_f a2 a1) (Ev.bind2 (ref_age_f a2 a1) ?_)
  simp only [if_true]
  refine Ev.bind2 (date_f H e1 e2) (Ev.bind2 (ref_date_f H e1 e2) ?_)
  simp only [if_true]
  exact Ev.bind2 wakes_f (Ev.pure _)
end Go.Proofs.YtoigafnaoaafeaaDoor.Pure
