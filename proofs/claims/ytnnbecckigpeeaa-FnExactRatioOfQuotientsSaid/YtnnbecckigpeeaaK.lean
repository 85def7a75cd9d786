import Derived.Test.YtnnbecckigpeeaaProg
import Derived.Below
import Derived.Deep.Draws
import Derived.Deep.AppendLies
import Derived.Maps.AppendAt
import Derived.OwnWalk
import Derived.Laws.BytesArg
import Derived.Laws.MakeOwn
import Derived.Laws.OwnMore
import Derived.Deep.OwnRows
import Derived.Tactics
import Derived.Lib.ConvBytes
import Derived.Laws.Slices
import Derived.WalkKit
import Derived.KernelRfl
import Derived.RowKit3
import Derived.Deep.LoopGhost
import Derived.Deep.QuietTactic
import Derived.BigQuiet
import Derived.WideLaws
import Derived.Deep.DeepCutAuto
import Derived.Deep.CutBlock
import Derived.Deep.RegionHeld3
import Derived.Laws.Rows
import Derived.Lib.AppendStr
import Derived.ArgAppend
import Derived.Laws.IdiomCopy
import Derived.OrdersHeld
import Derived.Laws.BitsLemmas
import Derived.RowKit
import Derived.Test.YtnnbecckigpeeaaWWords
import Derived.Test.YtnnbecckigpeeaaWLast
import Derived.Test.YtnnbecckigpeeaaWTab
import Derived.Test.YtnnbecckigpeeaaWFour
import Derived.Test.YtnnbecckigpeeaaWQPut
import Derived.Test.YtnnbecckigpeeaaWApart
import Derived.Test.YtnnbecckigpeeaaWArr
import Derived.Test.YtnnbecckigpeeaaWZeros
import Derived.Test.YtnnbecckigpeeaaWFoot
import Derived.Test.YtnnbecckigpeeaaWKept
import Derived.Test.YtnnbecckigpeeaaWShare
import Derived.Test.YtnnbecckigpeeaaWN
import Derived.Test.YtnnbecckigpeeaaWFootNe
import Derived.Test.YtnnbecckigpeeaaWAt
import Derived.Test.YtnnbecckigpeeaaWEqStruct
import Derived.Test.YtnnbecckigpeeaaWRepsOne
import Derived.Test.YtnnbecckigpeeaaWInv
import Derived.Test.YtnnbecckigpeeaaWInvWords
import Derived.Test.YtnnbecckigpeeaaWGuard
import Derived.Test.YtnnbecckigpeeaaWNEv
import Derived.Test.YtnnbecckigpeeaaWMore
namespace Go.Proofs.Ytnnbecckigpeeaa.P
open Go.RowKit Go.Proofs.YtnnbecckigpeeaaW.PrintWords Go.Proofs.YtnnbecckigpeeaaW.PrintLast Go.Proofs.YtnnbecckigpeeaaW.PrintMore
attribute [local go_sem] max2_int min2_int max_two min_two max_three min_three max_four min_four
set_option linter.unusedVariables false
set_option linter.unusedSimpArgs false

def errW : Option Int → Value
  | none => .nilIface
  | some c => .iface 0 (.int .i64 c)
theorem errW_none : errW none = .nilIface := rfl
theorem errW_some (c : Int) : errW (some c) = .iface 0 (.int .i64 c) := rfl

theorem info3 : (Try.prog.info? 3).map (fun i => (i.zero, i.size, i.bytes)) = some (some (.int .i64 0), 1, 8) := by kernel_rfl
-- the values' own types

end Go.Proofs.Ytnnbecckigpeeaa.P
