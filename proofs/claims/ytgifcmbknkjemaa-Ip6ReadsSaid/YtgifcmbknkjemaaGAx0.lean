/- Functions of the program as plain Lean functions, each with the proof that the call comes to it; written by a program of this session (a changed copy of the printer of the kit). -/
import Derived.Test.YtgifcmbknkjemaaProg
import Derived.Below
import Derived.Deep.Draws
import Derived.Deep.AppendLies
import Derived.Maps.AppendAt
import Derived.OwnWalk
import Derived.Laws.BytesArg
import Derived.Laws.MakeOwn
import Derived.Laws.OwnMore
import Derived.Deep.OwnRows
import Derived.Tactics
import Derived.Lib.ConvBytes
import Derived.Laws.Slices
import Derived.WalkKit
import Derived.KernelRfl
import Derived.RowKit3
import Derived.Deep.LoopGhost
import Derived.Deep.QuietTactic
import Derived.BigQuiet
import Derived.WideLaws
import Derived.Deep.DeepCutAuto
import Derived.Deep.CutBlock
import Derived.Deep.RegionHeld3
import Derived.Laws.Rows
import Derived.Lib.AppendStr
import Derived.ArgAppend
import Derived.Laws.IdiomCopy
import Derived.OrdersHeld
import Derived.Laws.BitsLemmas
import Derived.RowKit
import Derived.Test.YtgifcmbknkjemaaWWords
import Derived.Test.YtgifcmbknkjemaaWLast
import Derived.Test.YtgifcmbknkjemaaWTab
import Derived.Test.YtgifcmbknkjemaaWFour
import Derived.Test.YtgifcmbknkjemaaWQPut
import Derived.Test.YtgifcmbknkjemaaWApart
import Derived.Test.YtgifcmbknkjemaaWArr
import Derived.Test.YtgifcmbknkjemaaWZeros
import Derived.Test.YtgifcmbknkjemaaWFoot
import Derived.Test.YtgifcmbknkjemaaWKept
import Derived.Test.YtgifcmbknkjemaaWShare
import Derived.Test.YtgifcmbknkjemaaWN
import Derived.Test.YtgifcmbknkjemaaWFootNe
import Derived.Test.YtgifcmbknkjemaaWAt
import Derived.Test.YtgifcmbknkjemaaWEqStruct
import Derived.Test.YtgifcmbknkjemaaWRepsOne
import Derived.Test.YtgifcmbknkjemaaWInv
import Derived.Test.YtgifcmbknkjemaaWInvWords
import Derived.Test.YtgifcmbknkjemaaWGuard
import Derived.Test.YtgifcmbknkjemaaWNEv
import Derived.Test.YtgifcmbknkjemaaWMore
namespace Go.Proofs.Ytgifcmbknkjemaa.GA
open Go.RowKit Go.Proofs.YtgifcmbknkjemaaW.PrintWords Go.Proofs.YtgifcmbknkjemaaW.PrintLast Go.Proofs.YtgifcmbknkjemaaW.PrintMore
attribute [local go_sem] max2_int min2_int max_two min_two max_three min_three max_four min_four   -- for this text's walks alone
set_option linter.unusedVariables false
set_option linter.unusedSimpArgs false



def errW : Option Int → Value
  | none => .nilIface
  | some c => .iface 0 (.int .i64 c)
theorem errW_none : errW none = .nilIface := rfl
theorem errW_some (c : Int) : errW (some c) = .iface 0 (.int .i64 c) := rfl

theorem info5 : (Try.prog.info? 5).map (fun i => (i.zero, i.size, i.bytes)) = some (some (.int .u8 0), 1, 1) := by kernel_rfl
-- the values' own types

end Go.Proofs.Ytgifcmbknkjemaa.GA
