/- What the walks of ranges over functions lean on. -/
import Derived.RangeFuncBox
import Derived.RangeFuncLeaves
import Derived.RangeFuncFrom
import Derived.RangeFuncWrites
import Derived.RangeFuncCalls
import Derived.Shelf.Abstract
import Derived.WalkKit
import Derived.OwnWalkIn
import Derived.TacticsInMore
import Derived.LoopNIn
import Derived.LoopIn
import Derived.Maps.AppendAt
import Derived.Test.YtacjnapgdikhbaaGreatDoorProg
namespace Go.Proofs.YtacjnapgdikhbaaGreatDoor.Q
end Go.Proofs.YtacjnapgdikhbaaGreatDoor.Q
