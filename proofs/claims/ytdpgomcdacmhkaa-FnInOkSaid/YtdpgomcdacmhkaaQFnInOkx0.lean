/- What the walks below this law lean on: the types' rows and kinds of this translation. -/
import Derived.Lib.SliceRun
import Derived.Test.YtdpgomcdacmhkaaProg
import Derived.Below
import Derived.Deep.Draws
import Derived.Deep.AppendLies
import Derived.Maps.AppendAt
import Derived.OwnWalk
import Derived.Laws.BytesArg
import Derived.Laws.MakeOwn
import Derived.Laws.OwnMore
import Derived.Deep.OwnRows
import Derived.Tactics
import Derived.Lib.ConvBytes
import Derived.Laws.Slices
import Derived.WalkKit
import Derived.KernelRfl
import Derived.RowKit3
import Derived.Deep.LoopGhost
import Derived.Deep.QuietTactic
import Derived.BigQuiet
import Derived.WideLaws
import Derived.Deep.DeepCutAuto
import Derived.Deep.CutBlock
import Derived.Deep.RegionHeld3
import Derived.Laws.Rows
import Derived.Lib.AppendStr
import Derived.ArgAppend
import Derived.Laws.IdiomCopy
import Derived.OrdersHeld
import Derived.Laws.BitsLemmas
import Derived.RowKit
import Derived.Test.YtdpgomcdacmhkaaWWords
import Derived.Test.YtdpgomcdacmhkaaWLast
import Derived.Test.YtdpgomcdacmhkaaWTab
import Derived.Test.YtdpgomcdacmhkaaWFour
import Derived.Test.YtdpgomcdacmhkaaWQPut
import Derived.Test.YtdpgomcdacmhkaaWApart
import Derived.Test.YtdpgomcdacmhkaaWArr
import Derived.Test.YtdpgomcdacmhkaaWZeros
import Derived.Test.YtdpgomcdacmhkaaWFoot
import Derived.Test.YtdpgomcdacmhkaaWKept
import Derived.Test.YtdpgomcdacmhkaaWShare
import Derived.Test.YtdpgomcdacmhkaaWN
import Derived.Test.YtdpgomcdacmhkaaWFootNe
import Derived.Test.YtdpgomcdacmhkaaWAt
import Derived.Test.YtdpgomcdacmhkaaWEqStruct
import Derived.Test.YtdpgomcdacmhkaaWRepsOne
import Derived.Test.YtdpgomcdacmhkaaWInv
import Derived.Test.YtdpgomcdacmhkaaWInvWords
import Derived.Test.YtdpgomcdacmhkaaWGuard
import Derived.Test.YtdpgomcdacmhkaaWNEv
import Derived.Test.YtdpgomcdacmhkaaWMore
namespace Go.Proofs.Ytdpgomcdacmhkaa.QFnInOk
open Go.RowKit Go.Proofs.YtdpgomcdacmhkaaW.PrintWords Go.Proofs.YtdpgomcdacmhkaaW.PrintLast Go.Proofs.YtdpgomcdacmhkaaW.PrintMore
attribute [local go_sem] max2_int min2_int max_two min_two max_three min_three max_four min_four   -- for this text's walks alone
set_option linter.unusedVariables false
set_option linter.unusedSimpArgs false



def errW : Option Int → Value
  | none => .nilIface
  | some c => .iface 0 (.int .i64 c)
theorem errW_none : errW none = .nilIface := rfl
theorem errW_some (c : Int) : errW (some c) = .iface 0 (.int .i64 c) := rfl

theorem info3 : (Try.prog.info? 3).map (fun i => (i.zero, i.size, i.bytes)) = some (some (.int .i64 0), 1, 8) := by kernel_rfl
theorem info4 : (Try.prog.info? 4).map (fun i => (i.zero, i.size, i.bytes)) = some (some (.bool false), 1, 1) := by kernel_rfl
theorem info5 : (Try.prog.info? 5).map (fun i => (i.zero, i.size, i.bytes)) = some (some (.int .u8 0), 1, 1) := by kernel_rfl
-- the values' own types

end Go.Proofs.Ytdpgomcdacmhkaa.QFnInOk
