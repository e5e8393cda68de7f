/- The document's example; texts that are none; folds; lengths: all is told as the statement says (a closed statement). -/
import Derived.Test.YtdciiahlakgikaaDoorPK
import Derived.Test.YtdciiahlakgikaaDoorQx8b
namespace Go.Proofs.YtdciiahlakgikaaDoor.Pure
open Go.RowKit Go.Proofs.YtdciiahlakgikaaDoor.Q Go.Proofs.YtdciiahlakgikaaDoor.S Go.Proofs.YtdciiahlakgikaaDoorW.PrintWords Go.Proofs.YtdciiahlakgikaaDoorW.PrintLast Go.Proofs.YtdciiahlakgikaaDoorW.PrintMore
theorem HeadKnown : postriderlaw07_HeadKnown.Pure := Ev.to known_f
end Go.Proofs.YtdciiahlakgikaaDoor.Pure
