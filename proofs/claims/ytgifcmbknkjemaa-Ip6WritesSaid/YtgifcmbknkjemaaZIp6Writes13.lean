/- What the law Ip6Writes rests on, part 13: contracts of the functions that it calls, and plain lemmas. No condition. -/
import Derived.Test.YtgifcmbknkjemaaZIp6Writes12
import Derived.Deep.WholeRow
section
namespace Go.Proofs.Ytgifcmbknkjemaa.GA
open Go.RowKit Go.Proofs.YtgifcmbknkjemaaW.PrintWords Go.Proofs.YtgifcmbknkjemaaW.PrintLast Go.Proofs.YtgifcmbknkjemaaW.PrintMore
attribute [local go_sem] max2_int min2_int max_two min_two max_three min_three max_four min_four   -- for this text's walks alone
set_option linter.unusedVariables false
set_option linter.unusedSimpArgs false
def errW : Option Int → Value
  | none => .nilIface
  | some c => .iface 0 (.int .i64 c)
theorem errW_none : errW none = .nilIface := rfl
theorem errW_some (c : Int) : errW (some c) = .iface 0 (.int .i64 c) := rfl
theorem info5 : (Try.prog.info? 5).map (fun i => (i.zero, i.size, i.bytes)) = some (some (.int .u8 0), 1, 1) := by kernel_rfl
end Go.Proofs.Ytgifcmbknkjemaa.GA
end
