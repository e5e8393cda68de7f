/- Plain facts. -/
import Derived.Test.YtacjnapgdikhbaaGreatDoorSh
import Derived.Shelf.Strings.BuilderF
import Derived.Lib.SliceRun
namespace Go.Proofs
open Go.Shelf
end Go.Proofs

