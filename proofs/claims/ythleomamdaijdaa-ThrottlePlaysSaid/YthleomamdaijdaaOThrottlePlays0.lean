/- The contracts of the functions that ThrottlePlays reaches, part 0: lines of the tool's print, turned where one of its texts does not build. -/
import Derived.Test.YthleomamdaijdaaProg
import Derived.Below
import Derived.Deep.Draws
import Derived.Deep.AppendLies
import Derived.Maps.AppendAt
import Derived.OwnWalk
import Derived.Laws.BytesArg
import Derived.Laws.MakeOwn
import Derived.Laws.OwnMore
import Derived.Deep.OwnRows
import Derived.Tactics
import Derived.Lib.ConvBytes
import Derived.Laws.Slices
import Derived.WalkKit
import Derived.KernelRfl
import Derived.RowKit3
import Derived.Deep.LoopGhost
import Derived.Deep.QuietTactic
import Derived.BigQuiet
import Derived.WideLaws
import Derived.Deep.DeepCutAuto
import Derived.Deep.CutBlock
import Derived.Deep.RegionHeld3
import Derived.Laws.Rows
import Derived.Lib.AppendStr
import Derived.ArgAppend
import Derived.Laws.IdiomCopy
import Derived.OrdersHeld
import Derived.Laws.BitsLemmas
import Derived.RowKit
import Derived.Test.YthleomamdaijdaaWWords
import Derived.Test.YthleomamdaijdaaWLast
import Derived.Test.YthleomamdaijdaaWTab
import Derived.Test.YthleomamdaijdaaWFour
import Derived.Test.YthleomamdaijdaaWQPut
import Derived.Test.YthleomamdaijdaaWApart
import Derived.Test.YthleomamdaijdaaWArr
import Derived.Test.YthleomamdaijdaaWZeros
import Derived.Test.YthleomamdaijdaaWFoot
import Derived.Test.YthleomamdaijdaaWKept
import Derived.Test.YthleomamdaijdaaWShare
import Derived.Test.YthleomamdaijdaaWN
import Derived.Test.YthleomamdaijdaaWFootNe
import Derived.Test.YthleomamdaijdaaWAt
import Derived.Test.YthleomamdaijdaaWEqStruct
import Derived.Test.YthleomamdaijdaaWRepsOne
import Derived.Test.YthleomamdaijdaaWInv
import Derived.Test.YthleomamdaijdaaWInvWords
import Derived.Test.YthleomamdaijdaaWGuard
import Derived.Test.YthleomamdaijdaaWNEv
import Derived.Test.YthleomamdaijdaaWMore
namespace Go.Proofs.Ythleomamdaijdaa.OThrottlePlays
open Go.RowKit Go.Proofs.YthleomamdaijdaaW.PrintWords Go.Proofs.YthleomamdaijdaaW.PrintLast Go.Proofs.YthleomamdaijdaaW.PrintMore
attribute [local go_sem] max2_int min2_int max_two min_two max_three min_three max_four min_four   -- for this text's walks alone
set_option linter.unusedVariables false
set_option linter.unusedSimpArgs false



def errW : Option Int → Value
  | none => .nilIface
  | some c => .iface 0 (.int .i64 c)
theorem errW_none : errW none = .nilIface := rfl
theorem errW_some (c : Int) : errW (some c) = .iface 0 (.int .i64 c) := rfl

theorem info4 : (Try.prog.info? 4).map (fun i => (i.zero, i.size, i.bytes)) = some (some (.bool false), 1, 1) := by kernel_rfl
-- the values' own types

end Go.Proofs.Ythleomamdaijdaa.OThrottlePlays
