/- The chapter's rows; what is wrong, one by one; numbers: all is told as the statement says (a closed statement). -/
import Derived.Test.YtfeihligcondgaaDoorQx0
namespace Go.Proofs.YtfeihligcondgaaDoor.Pure
open Go.RowKit Go.Proofs.YtfeihligcondgaaDoor.Q Go.Proofs.YtfeihligcondgaaDoorW.PrintWords Go.Proofs.YtfeihligcondgaaDoorW.PrintLast Go.Proofs.YtfeihligcondgaaDoorW.PrintMore
set_option maxRecDepth 100000 in
theorem TextKnown : postriderlaw04_TextKnown.Pure := ⟨60, by decide +kernel⟩
end Go.Proofs.YtfeihligcondgaaDoor.Pure
