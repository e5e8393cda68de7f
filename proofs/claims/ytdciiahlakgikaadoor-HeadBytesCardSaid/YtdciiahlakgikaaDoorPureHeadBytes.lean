/- Byte by byte: a message's text is the text that it was read of; a field laid ahead changes no byte of all others; one put in its place changes no byte of others; both are read as they are (any fields, the first 12, brought to such as may be, a body, brought to lines; a value, brought to such as may be; which one). -/
import Derived.Test.YtdciiahlakgikaaDoorPC
import Derived.Test.YtdciiahlakgikaaDoorQx8b
namespace Go.Proofs.YtdciiahlakgikaaDoor.Pure
open Go.RowKit Go.Proofs.YtdciiahlakgikaaDoor.Q Go.Proofs.YtdciiahlakgikaaDoor.S Go.Proofs.YtdciiahlakgikaaDoorW.PrintWords Go.Proofs.YtdciiahlakgikaaDoorW.PrintLast Go.Proofs.YtdciiahlakgikaaDoorW.PrintMore
set_option linter.unusedVariables false
theorem wf_u8 {x : Int} (h : (Lit.int .u8 x).wf = true) : 0 ≤ x ∧ x < 256 := by
  simp [Lit.wf, IntKind.min, IntKind.max, IntKind.bits, IntKind.signed] at h
  omega
theorem HeadBytes : postriderlaw07_HeadBytes.Pure := by
  intro l0 a1 a2 at_ e _ hw _ ha hat
  obtain ⟨h0, h1⟩ := wf_u8 hat
  exact Ev.to (bytes_f l0 a1 a2 at_ e (fun y hy => wf_u8 (hw y hy).2.2) h0 h1 ha)
end Go.Proofs.YtdciiahlakgikaaDoor.Pure
