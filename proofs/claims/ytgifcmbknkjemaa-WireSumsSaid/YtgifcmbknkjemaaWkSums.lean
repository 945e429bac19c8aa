/- The law WireSums: the sum and the check sum of any parts are the reference's: the call answers true. Conditions: bytes are bytes, the parts within reach. -/
import Derived.Test.YtgifcmbknkjemaaC2
import Derived.Test.YtgifcmbknkjemaaL1x1
namespace Go.Proofs.Ytgifcmbknkjemaa.Own
open Go Go.RowKit Go.Proofs.YtgifcmbknkjemaaW.PrintWords Go.Proofs.YtgifcmbknkjemaaW.PrintLast
set_option linter.unusedVariables false
set_option linter.unusedSimpArgs false
theorem WireSums_walk (w : World) (A0 : Option Addr) (c0 : Nat) (l0 : List (List Int)) (hr0 : Kd.C (Kd.slice 5 (Kd.int .u8)) w A0 l0.length l0) (hc0 : l0.length ≤ c0) (hg0 : okP l0 = true) :
    Calls Try.prog 3 #[.slice A0 l0.length c0] w fun e w' => e = .returned (.bool true) ∧ Below w.heap.size w w' := by
  have hb := sumOf_bounds l0
  refine L1.stockadelaw01_WireSums.calls A0 c0 l0 true w hr0 hc0 ?_
  unfold L1.stockadelaw01_WireSums.f Own.stockaderef01_Sum.f Own.wire_Sum.f Own.wire_Check.f
  rw [if_pos hg0]
  simp only [Option.bind_some, if_true]
  rw [w64 _ (by omega) (by omega)]
  simp [Own.stockadelaw01_alive.f, hg0]
end Go.Proofs.Ytgifcmbknkjemaa.Own
