/- What the law Ip4Behind rests on, part 14: contracts of the functions that it calls, and plain lemmas. No condition. -/
import Derived.Test.YtgifcmbknkjemaaZIp4Behind13
import Derived.ChangeSlices
section
namespace Go.Proofs.Ytgifcmbknkjemaa.QQ
open Go Go.RowKit Go.Proofs.YtgifcmbknkjemaaW.PrintWords Go.Proofs.YtgifcmbknkjemaaW.PrintLast
set_option linter.unusedVariables false
set_option linter.unusedSimpArgs false
def wire_Sum.f (l0 : List (List Int)) : Option Int := Own.wire_Sum.f l0
theorem wire_Sum.calls (A0 : Option Addr) (c0 : Nat) (l0 : List (List Int)) (r : Int) (w : World) (hr0 : Kd.C (Kd.slice 5 (Kd.int .u8)) w A0 l0.length l0) (hc0 : l0.length ≤ c0) (h : wire_Sum.f l0 = some r) :
    Calls Try.prog 40 #[.slice A0 l0.length c0] w fun e w' => e = .returned (.int .i64 r) ∧ Below w.heap.size w w' :=
  (Own.wire_Sum.calls A0 c0 l0 r w hr0 hc0 h).mono fun e w' hh => ⟨hh.1, hh.2.below⟩
def wire_Check.f (l0 : List (List Int)) : Option Int := Own.wire_Check.f l0
theorem wire_Check.calls (A0 : Option Addr) (c0 : Nat) (l0 : List (List Int)) (r : Int) (w : World) (hr0 : Kd.C (Kd.slice 5 (Kd.int .u8)) w A0 l0.length l0) (hc0 : l0.length ≤ c0) (h : wire_Check.f l0 = some r) :
    Calls Try.prog 41 #[.slice A0 l0.length c0] w fun e w' => e = .returned (.int .i64 r) ∧ Below w.heap.size w w' :=
  (Own.wire_Check.calls A0 c0 l0 r w hr0 hc0 h).mono fun e w' hh => ⟨hh.1, hh.2.below⟩
def wire_U16.f (l0 : List Int) (a1 : Int) : Option (Int × Bool) := Own.wire_U16.f l0 a1
theorem wire_U16.calls (A0 : Option Addr) (c0 : Nat) (l0 : List Int) (a1 : Int) (r1 : Int) (r2 : Bool) (w : World) (hr0 : Kd.C (Kd.int .u8) w A0 l0.length l0) (hc0 : l0.length ≤ c0) (h : wire_U16.f l0 a1 = some (r1, r2)) :
    Calls Try.prog 49 #[.slice A0 l0.length c0, .int .i64 a1] w fun e w' => e = .returned (.tuple #[.int .i64 r1, .bool r2]) ∧ Below w.heap.size w w' :=
  (Own.wire_U16.calls A0 c0 l0 a1 r1 r2 w hr0 hc0 h).mono fun e w' hh => ⟨hh.1, hh.2.below⟩
def wire_Put16.f (l0 : List Int) (a1 : Int) : Option (List Int) := Own.wire_Put16.f l0 a1
theorem wire_Put16.calls (A0 : Option Addr) (c0 : Nat) (l0 : List Int) (a1 : Int) (r : List Int) (w : World) (hr0 : Kd.C (Kd.int .u8) w A0 l0.length l0) (hc0 : l0.length ≤ c0) (h : wire_Put16.f l0 a1 = some r) :
    Calls Try.prog 44 #[.slice A0 l0.length c0, .int .i64 a1] w fun e w' => ∃ v0_ : Value, e = .returned (v0_) ∧ Kd.R (Kd.int .u8) 5 w' w.heap.size (fun _ => True) v0_ r ∧ Below w.heap.size w w' :=
  Own.wire_Put16.calls A0 c0 l0 a1 r w hr0 hc0 h
def stockaderef01_Same.f (l0 l1 : List Int) : Option Bool := Own.stockaderef01_Same.f l0 l1
theorem stockaderef01_Same.calls (A0 : Option Addr) (c0 : Nat) (l0 : List Int) (A1 : Option Addr) (c1 : Nat) (l1 : List Int) (r : Bool) (w : World) (hr0 : Kd.C (Kd.int .u8) w A0 l0.length l0) (hc0 : l0.length ≤ c0) (hr1 : Kd.C (Kd.int .u8) w A1 l1.length l1) (hc1 : l1.length ≤ c1) (h : stockaderef01_Same.f l0 l1 = some r) :
    Calls Try.prog 46 #[.slice A0 l0.length c0, .slice A1 l1.length c1] w fun e w' => e = .returned (.bool r) ∧ Below w.heap.size w w' :=
  (Own.stockaderef01_Same.calls A0 c0 l0 A1 c1 l1 r w hr0 hc0 hr1 hc1 h).mono fun e w' hh => ⟨hh.1, hh.2.below⟩
def slices_Clone_byte_byte.f (l0 : List Int) : Option (List Int) := Own.slices_Clone_byte_byte.f l0
theorem slices_Clone_byte_byte.calls (A0 : Option Addr) (c0 : Nat) (l0 : List Int) (r : List Int) (w : World) (hr0 : Kd.C (Kd.int .u8) w A0 l0.length l0) (hc0 : l0.length ≤ c0) (h : slices_Clone_byte_byte.f l0 = some r) :
    Calls Try.prog 98 #[.slice A0 l0.length c0] w fun e w' => ∃ v0_ : Value, e = .returned (v0_) ∧ Kd.R (Kd.int .u8) 5 w' w.heap.size (fun _ => True) v0_ r ∧ Below w.heap.size w w' :=
  Own.slices_Clone_byte_byte.calls A0 c0 l0 r w hr0 hc0 h
end Go.Proofs.Ytgifcmbknkjemaa.QQ
end
section
namespace Go.Proofs.Ytgifcmbknkjemaa.Own
open Go Go.RowKit Go.Proofs.YtgifcmbknkjemaaW.PrintWords Go.Proofs.YtgifcmbknkjemaaW.PrintLast Go.Proofs.YtgifcmbknkjemaaW.PrintMore
set_option linter.unusedVariables false
set_option linter.unusedSimpArgs false
def addr_Right.f (a0_0 : Int) (a0_1 : Int) (a0_2 : Int) : Option (Bool) := if (0 ≤ a0_1 ∧ a0_1 < 18446744073709551616) ∧ (0 ≤ a0_2 ∧ a0_2 < 18446744073709551616) then some (rightA (a0_0, a0_1, a0_2)) else none
set_option maxRecDepth 100000 in
theorem addr_Right.calls (a0_0 : Int) (a0_1 : Int) (a0_2 : Int) (r : Bool) (w : World) (h : addr_Right.f a0_0 a0_1 a0_2 = some r) :
    Calls Try.prog 148 #[.agg #[.int .i64 a0_0, .int .u64 a0_1, .int .u64 a0_2]] w fun e w' => e = .returned (.bool r) ∧ Below w.heap.size w w' := by
  unfold addr_Right.f at h
  split at h
  · rename_i hg
    obtain rfl := Option.some.inj h
    exact GA.addr_Right.calls a0_0 a0_1 a0_2 _ w (right_is (a := (a0_0, a0_1, a0_2)) hg)
  · cases h
def addr_Bytes.f (a0_0 : Int) (a0_1 : Int) (a0_2 : Int) : Option (List Int) := if (0 ≤ a0_1 ∧ a0_1 < 18446744073709551616) ∧ (0 ≤ a0_2 ∧ a0_2 < 18446744073709551616) then some (bytesA (a0_0, a0_1, a0_2)) else none
set_option maxRecDepth 100000 in
theorem addr_Bytes.calls (a0_0 : Int) (a0_1 : Int) (a0_2 : Int) (r : List Int) (w : World) (h : addr_Bytes.f a0_0 a0_1 a0_2 = some r) :
    Calls Try.prog 117 #[.agg #[.int .i64 a0_0, .int .u64 a0_1, .int .u64 a0_2]] w fun e w' => ∃ v0_ : Value, e = .returned (v0_) ∧ Kd.R (Kd.int .u8) 5 w' w.heap.size (fun _ => True) v0_ r ∧ Below w.heap.size w w' := by
  unfold addr_Bytes.f at h
  split at h
  · rename_i hg
    obtain rfl := Option.some.inj h
    exact addrBytes_at (a0_0, a0_1, a0_2) hg w
  · cases h
def addr_From.f (l0 : List Int) : Option (Int × Int × Int × Int) := if okB l0 = true then some (fromA l0) else none
set_option maxRecDepth 100000 in
theorem addr_From.calls (A0 : Option Addr) (c0 : Nat) (l0 : List Int) (r1 : Int) (r2 : Int) (r3 : Int) (r4 : Int) (w : World) (hr0 : Kd.C (Kd.int .u8) w A0 l0.length l0) (hc0 : l0.length ≤ c0) (h : addr_From.f l0 = some (r1, r2, r3, r4)) :
    Calls Try.prog 102 #[.slice A0 l0.length c0] w fun e w' => e = .returned (.tuple #[.agg #[.int .i64 r1, .int .u64 r2, .int .u64 r3], .int .i64 r4]) ∧ Below w.heap.size w w' := by
  unfold addr_From.f at h
  split at h
  · rename_i hg
    have h := Option.some.inj h
    exact (From_at hr0 hc0 (okB_iff.1 hg)).mono fun e w' hh => by rw [h] at hh; exact hh
  · cases h
end Go.Proofs.Ytgifcmbknkjemaa.Own
end
section
namespace Go.Proofs.Ytgifcmbknkjemaa.QQ
open Go.RowKit Go.Proofs.YtgifcmbknkjemaaW.PrintWords Go.Proofs.YtgifcmbknkjemaaW.PrintLast Go.Proofs.YtgifcmbknkjemaaW.PrintMore Go.Proofs.Ytgifcmbknkjemaa.Own
attribute [local go_sem] max2_int min2_int max_two min_two max_three min_three max_four min_four   -- for this text's walks alone
set_option linter.unusedVariables false
set_option linter.unusedSimpArgs false
def errW : Option Int → Value
  | none => .nilIface
  | some c => .iface 0 (.int .i64 c)
theorem errW_none : errW none = .nilIface := rfl
theorem errW_some (c : Int) : errW (some c) = .iface 0 (.int .i64 c) := rfl
theorem info5 : (Try.prog.info? 5).map (fun i => (i.zero, i.size, i.bytes)) = some (some (.int .u8 0), 1, 1) := by kernel_rfl
end Go.Proofs.Ytgifcmbknkjemaa.QQ
end
