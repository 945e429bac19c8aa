/- Functions of the program as plain Lean functions, each with the proof that the call comes to it; written by a program of this session (a changed copy of the printer of the kit). -/
import Derived.Test.YtgifcmbknkjemaaGWx0
import Derived.Test.YtgifcmbknkjemaaGWx1
import Derived.Test.YtgifcmbknkjemaaGWx2
namespace Go.Proofs.Ytgifcmbknkjemaa.GW
open Go.RowKit Go.Proofs.YtgifcmbknkjemaaW.PrintWords Go.Proofs.YtgifcmbknkjemaaW.PrintLast Go.Proofs.YtgifcmbknkjemaaW.PrintMore Go.Proofs.Ytgifcmbknkjemaa.Own
attribute [local go_sem] max2_int min2_int max_two min_two max_three min_three max_four min_four   -- for this text's walks alone
set_option linter.unusedVariables false
set_option linter.unusedSimpArgs false

end Go.Proofs.Ytgifcmbknkjemaa.GW
