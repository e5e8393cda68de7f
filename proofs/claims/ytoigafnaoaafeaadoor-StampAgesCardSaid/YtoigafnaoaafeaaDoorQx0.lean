-- Written by this session's own program (wip/tools: a patched run of the printer) out of the translation.
import Derived.Test.YtoigafnaoaafeaaDoorProg
import Derived.Below
import Derived.Deep.Draws
import Derived.Deep.AppendLies
import Derived.Maps.AppendAt
import Derived.OwnWalk
import Derived.Laws.BytesArg
import Derived.Laws.MakeOwn
import Derived.Laws.OwnMore
import Derived.Deep.OwnRows
import Derived.Tactics
import Derived.Lib.ConvBytes
import Derived.Laws.Slices
import Derived.WalkKit
import Derived.KernelRfl
import Derived.RowKit3
import Derived.Deep.LoopGhost
import Derived.Deep.QuietTactic
import Derived.BigQuiet
import Derived.WideLaws
import Derived.Deep.DeepCutAuto
import Derived.Deep.CutBlock
import Derived.Deep.RegionHeld3
import Derived.Laws.Rows
import Derived.Lib.AppendStr
import Derived.ArgAppend
import Derived.Laws.IdiomCopy
import Derived.OrdersHeld
import Derived.Laws.BitsLemmas
import Derived.RowKit
import Derived.Laws.RangeString
import Derived.Laws.RangeAny
import Derived.LoopTactic
import Derived.Below
import Derived.Lib.Hide
import Derived.IntWalk
import Derived.Test.YtoigafnaoaafeaaDoorG
import Derived.Test.YtoigafnaoaafeaaDoorWWords
import Derived.Test.YtoigafnaoaafeaaDoorWLast
import Derived.Test.YtoigafnaoaafeaaDoorWTab
import Derived.Test.YtoigafnaoaafeaaDoorWFour
import Derived.Test.YtoigafnaoaafeaaDoorWQPut
import Derived.Test.YtoigafnaoaafeaaDoorWApart
import Derived.Test.YtoigafnaoaafeaaDoorWArr
import Derived.Test.YtoigafnaoaafeaaDoorWZeros
import Derived.Test.YtoigafnaoaafeaaDoorWFoot
import Derived.Test.YtoigafnaoaafeaaDoorWKept
import Derived.Test.YtoigafnaoaafeaaDoorWShare
import Derived.Test.YtoigafnaoaafeaaDoorWN
import Derived.Test.YtoigafnaoaafeaaDoorWFootNe
import Derived.Test.YtoigafnaoaafeaaDoorWAt
import Derived.Test.YtoigafnaoaafeaaDoorWEqStruct
import Derived.Test.YtoigafnaoaafeaaDoorWRepsOne
import Derived.Test.YtoigafnaoaafeaaDoorWInv
import Derived.Test.YtoigafnaoaafeaaDoorWInvWords
import Derived.Test.YtoigafnaoaafeaaDoorWGuard
import Derived.Test.YtoigafnaoaafeaaDoorWNEv
import Derived.Test.YtoigafnaoaafeaaDoorWMore
namespace Go.Proofs.YtoigafnaoaafeaaDoor.Q
open Go.RowKit Go.Proofs.YtoigafnaoaafeaaDoorW.PrintWords Go.Proofs.YtoigafnaoaafeaaDoorW.PrintLast Go.Proofs.YtoigafnaoaafeaaDoorW.PrintMore
attribute [local go_sem] max2_int min2_int max_two min_two max_three min_three max_four min_four   -- for this text's walks alone
set_option linter.unusedVariables false
set_option linter.unusedSimpArgs false



def errW : Option Int → Value
  | none => .nilIface
  | some c => .iface 0 (.int .i64 c)
theorem errW_none : errW none = .nilIface := rfl
theorem errW_some (c : Int) : errW (some c) = .iface 0 (.int .i64 c) := rfl

theorem info5 : (Tryd.prog.info? 5).map (fun i => (i.zero, i.size, i.bytes)) = some (some (.int .u8 0), 1, 1) := by kernel_rfl
theorem info9 : (Tryd.prog.info? 9).map (fun i => (i.zero, i.size, i.bytes)) = some (some (.string ⟨#[]⟩), 1, 16) := by kernel_rfl
-- the values' own types

end Go.Proofs.YtoigafnaoaafeaaDoor.Q
