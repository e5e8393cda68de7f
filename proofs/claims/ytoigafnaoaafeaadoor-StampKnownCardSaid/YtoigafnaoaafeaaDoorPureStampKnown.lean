/- What is known of stamps and dates, one by one: all is told as the statement says (a closed statement). -/
import Derived.Test.YtoigafnaoaafeaaDoorQx4
namespace Go.Proofs.YtoigafnaoaafeaaDoor.Pure
open Go.RowKit Go.Proofs.YtoigafnaoaafeaaDoor.Q Go.Proofs.YtoigafnaoaafeaaDoorW.PrintWords Go.Proofs.YtoigafnaoaafeaaDoorW.PrintLast Go.Proofs.YtoigafnaoaafeaaDoorW.PrintMore
set_option maxRecDepth 100000 in
theorem StampKnown : postriderlaw09_StampKnown.Pure := ⟨60, by decide +kernel⟩
end Go.Proofs.YtoigafnaoaafeaaDoor.Pure
