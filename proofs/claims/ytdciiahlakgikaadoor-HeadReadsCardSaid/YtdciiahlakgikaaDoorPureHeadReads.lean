/- Of any text (its first 9000 bytes): the message that the program reads is the document's. -/
import Derived.Test.YtdciiahlakgikaaDoorHL
import Derived.Test.YtdciiahlakgikaaDoorQx10
namespace Go.Proofs.YtdciiahlakgikaaDoor.Pure
open Go.RowKit Go.Proofs.YtdciiahlakgikaaDoor.Q Go.Proofs.YtdciiahlakgikaaDoor.S Go.Proofs.YtdciiahlakgikaaDoorW.PrintWords Go.Proofs.YtdciiahlakgikaaDoorW.PrintLast Go.Proofs.YtdciiahlakgikaaDoorW.PrintMore
set_option linter.unusedVariables false
set_option linter.unusedSimpArgs false
theorem HeadReads : postriderlaw07_HeadReads.Pure := by
  intro a0 h0
  have hm := mn_le (a0.size : Int) 9000
  obtain ⟨fs, b, e, c, hl, h1, h2⟩ := both_parse (a0.extract 0 ((mn (a0.size : Int) 9000) : Int).toNat)
  apply Ev.to
  unfold postriderlaw07_HeadReads.f
  have k1 : 0 ≤ mn (a0.size : Int) 9000 := by omega
  have k2 : mn (a0.size : Int) 9000 ≤ (a0.size : Int) := by omega
  simp only [if_pos k1, if_pos k2]
  refine Ev.bind2 h1 (Ev.bind2 h2 ?_)
  simp only [if_true]
  refine Ev.bind2 (of_f (by rw [List.length_map]; omega) b e) ?_
  have hcv : (fs.map mkS).map cvR = fs.map mkR := by rw [List.map_map]; rfl
  simp only [hcv]
  refine Ev.bind2 (same_eq (by rw [List.length_map]; omega) b e) ?_
  simp only [if_true]
  exact Ev.bind2 wakes_f (Ev.pure _)
end Go.Proofs.YtdciiahlakgikaaDoor.Pure
