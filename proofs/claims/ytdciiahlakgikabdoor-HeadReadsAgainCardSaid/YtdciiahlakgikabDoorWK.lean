/- The document's example holds. -/
import Derived.Test.YtdciiahlakgikabDoorS
import Derived.Test.YtdciiahlakgikabDoorQx5
namespace Go.Proofs.YtdciiahlakgikabDoor.S
open Go.RowKit Go.Proofs.YtdciiahlakgikabDoor.Q Go.Proofs.YtdciiahlakgikabDoorW.PrintWords Go.Proofs.YtdciiahlakgikabDoorW.PrintLast Go.Proofs.YtdciiahlakgikabDoorW.PrintMore
theorem wakes_f : Ev (fun k => postriderlaw07_wakes.f k) true := Ev.of (k := 60) (fun k => postriderlaw07_wakes.mono k) (by decide +kernel)
end Go.Proofs.YtdciiahlakgikabDoor.S
