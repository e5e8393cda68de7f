/- Of every text: quoted strings, comments and white space at its front (the first 200 bytes) are told by the program as the document tells them. -/
import Derived.Test.YtfeihligcondgaaU
namespace Go.Proofs.Ytfeihligcondgaa.Pure
open Go.RowKit Go.Proofs.Ytfeihligcondgaa.Q Go.Proofs.Ytfeihligcondgaa.S Go.Proofs.YtfeihligcondgaaW.PrintWords Go.Proofs.YtfeihligcondgaaW.PrintLast Go.Proofs.YtfeihligcondgaaW.PrintMore

set_option linter.unusedVariables false
set_option linter.unusedSimpArgs false
theorem TextQuotes : postriderlaw04_TextQuotes.Pure := by
  intro a0 h
  have hm := mn_le (a0.size : Int) 200
  have hn := mn_nat a0.size 200
  obtain ⟨x, hx⟩ : ∃ x, x = a0.extract 0 ((mn (a0.size : Int) 200) : Int).toNat := ⟨_, rfl⟩
  have hxs : x.size ≤ 200 := by rw [hx, ByteArray.size_extract]; omega
  apply Ev.to
  unfold postriderlaw04_TextQuotes.f
  rw [← hx]
  have h1 : 0 ≤ mn (a0.size : Int) 200 := by omega
  have h2 : mn (a0.size : Int) 200 ≤ (a0.size : Int) := by omega
  simp only [h1, h2, if_true]
  refine Ev.bindc (quote_f (s := x) (by omega)) ?_
  refine Ev.bind2 (ref_quote_f (s := x) (by omega)) ?_
  refine Ev.bind2 (quoted_f (s := x) (by omega)) ?_
  refine Ev.bind2 (ref_quoted_f (s := x) (by omega)) ?_
  refine Ev.bind2 (comment_f (s := x) (by omega)) ?_
  refine Ev.bind2 (ref_comment_f (s := x) (by omega)) ?_
  refine Ev.bind2 (blank_f (s := x) (by omega)) ?_
  refine Ev.bind2 (ref_blank_f (s := x) (by omega)) ?_
  simp only [if_true]
  exact Ev.bind2 tells_f (Ev.pure _)
end Go.Proofs.Ytfeihligcondgaa.Pure
