/- The document's example holds. -/
import Derived.Test.YtdciiahlakgikaaDoorS
import Derived.Test.YtdciiahlakgikaaDoorQx5
namespace Go.Proofs.YtdciiahlakgikaaDoor.S
open Go.RowKit Go.Proofs.YtdciiahlakgikaaDoor.Q Go.Proofs.YtdciiahlakgikaaDoorW.PrintWords Go.Proofs.YtdciiahlakgikaaDoorW.PrintLast Go.Proofs.YtdciiahlakgikaaDoorW.PrintMore
theorem wakes_f : Ev (fun k => postriderlaw07_wakes.f k) true := Ev.of (k := 60) (fun k => postriderlaw07_wakes.mono k) (by decide +kernel)
end Go.Proofs.YtdciiahlakgikaaDoor.S
