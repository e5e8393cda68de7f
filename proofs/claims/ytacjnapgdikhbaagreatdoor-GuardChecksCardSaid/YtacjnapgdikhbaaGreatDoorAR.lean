/- A small array in memory: stored as a whole. -/
import Derived.Test.YtacjnapgdikhbaaGreatDoorV
import Derived.Laws.Tables
namespace Go.Proofs.YtacjnapgdikhbaaGreatDoor.Q
open Go.RowKit Go.Proofs.YtacjnapgdikhbaaGreatDoorW.PrintWords Go.Proofs.YtacjnapgdikhbaaGreatDoorW.PrintLast
end Go.Proofs.YtacjnapgdikhbaaGreatDoor.Q

