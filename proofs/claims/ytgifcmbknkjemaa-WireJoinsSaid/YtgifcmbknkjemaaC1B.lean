/- The same contracts in one form: what a call leaves is told by Below alone. No condition. -/
import Derived.Test.YtgifcmbknkjemaaC1
namespace Go.Proofs.Ytgifcmbknkjemaa.OwnB
open Go Go.RowKit Go.Proofs.YtgifcmbknkjemaaW.PrintWords Go.Proofs.YtgifcmbknkjemaaW.PrintLast
set_option linter.unusedVariables false
set_option linter.unusedSimpArgs false

def wire_Sum.f (l0 : List (List Int)) : Option Int := Own.wire_Sum.f l0
theorem wire_Sum.calls (A0 : Option Addr) (c0 : Nat) (l0 : List (List Int)) (r : Int) (w : World) (hr0 : Kd.C (Kd.slice 5 (Kd.int .u8)) w A0 l0.length l0) (hc0 : l0.length ≤ c0) (h : wire_Sum.f l0 = some r) :
    Calls Try.prog 40 #[.slice A0 l0.length c0] w fun e w' => e = .returned (.int .i64 r) ∧ Below w.heap.size w w' :=
  (Own.wire_Sum.calls A0 c0 l0 r w hr0 hc0 h).mono fun e w' hh => ⟨hh.1, hh.2.below⟩
def stockaderef01_Sum.f (l0 : List (List Int)) : Option Int := Own.stockaderef01_Sum.f l0
theorem stockaderef01_Sum.calls (A0 : Option Addr) (c0 : Nat) (l0 : List (List Int)) (r : Int) (w : World) (hr0 : Kd.C (Kd.slice 5 (Kd.int .u8)) w A0 l0.length l0) (hc0 : l0.length ≤ c0) (h : stockaderef01_Sum.f l0 = some r) :
    Calls Try.prog 39 #[.slice A0 l0.length c0] w fun e w' => e = .returned (.int .i64 r) ∧ Below w.heap.size w w' :=
  (Own.stockaderef01_Sum.calls A0 c0 l0 r w hr0 hc0 h).mono fun e w' hh => ⟨hh.1, hh.2.below⟩
def wire_Check.f (l0 : List (List Int)) : Option Int := Own.wire_Check.f l0
theorem wire_Check.calls (A0 : Option Addr) (c0 : Nat) (l0 : List (List Int)) (r : Int) (w : World) (hr0 : Kd.C (Kd.slice 5 (Kd.int .u8)) w A0 l0.length l0) (hc0 : l0.length ≤ c0) (h : wire_Check.f l0 = some r) :
    Calls Try.prog 41 #[.slice A0 l0.length c0] w fun e w' => e = .returned (.int .i64 r) ∧ Below w.heap.size w w' :=
  (Own.wire_Check.calls A0 c0 l0 r w hr0 hc0 h).mono fun e w' hh => ⟨hh.1, hh.2.below⟩
def stockadelaw01_alive.f : Option Bool := Own.stockadelaw01_alive.f 
theorem stockadelaw01_alive.calls (r : Bool) (w : World) (h : stockadelaw01_alive.f = some r) :
    Calls Try.prog 42 #[] w fun e w' => e = .returned (.bool r) ∧ Below w.heap.size w w' :=
  Own.stockadelaw01_alive.calls r w h
def wire_U16.f (l0 : List Int) (a1 : Int) : Option (Int × Bool) := Own.wire_U16.f l0 a1
theorem wire_U16.calls (A0 : Option Addr) (c0 : Nat) (l0 : List Int) (a1 : Int) (r1 : Int) (r2 : Bool) (w : World) (hr0 : Kd.C (Kd.int .u8) w A0 l0.length l0) (hc0 : l0.length ≤ c0) (h : wire_U16.f l0 a1 = some (r1, r2)) :
    Calls Try.prog 49 #[.slice A0 l0.length c0, .int .i64 a1] w fun e w' => e = .returned (.tuple #[.int .i64 r1, .bool r2]) ∧ Below w.heap.size w w' :=
  (Own.wire_U16.calls A0 c0 l0 a1 r1 r2 w hr0 hc0 h).mono fun e w' hh => ⟨hh.1, hh.2.below⟩
def wire_U32.f (l0 : List Int) (a1 : Int) : Option (Int × Bool) := Own.wire_U32.f l0 a1
theorem wire_U32.calls (A0 : Option Addr) (c0 : Nat) (l0 : List Int) (a1 : Int) (r1 : Int) (r2 : Bool) (w : World) (hr0 : Kd.C (Kd.int .u8) w A0 l0.length l0) (hc0 : l0.length ≤ c0) (h : wire_U32.f l0 a1 = some (r1, r2)) :
    Calls Try.prog 50 #[.slice A0 l0.length c0, .int .i64 a1] w fun e w' => e = .returned (.tuple #[.int .u32 r1, .bool r2]) ∧ Below w.heap.size w w' :=
  (Own.wire_U32.calls A0 c0 l0 a1 r1 r2 w hr0 hc0 h).mono fun e w' hh => ⟨hh.1, hh.2.below⟩
def wire_Part.f (l0 : List Int) (a1 a2 : Int) : Option (List Int × Bool) := Own.wire_Part.f l0 a1 a2
theorem wire_Part.calls (A0 : Option Addr) (c0 : Nat) (l0 : List Int) (a1 a2 : Int) (r1 : List Int) (r2 : Bool) (w : World) (hr0 : Kd.C (Kd.int .u8) w A0 l0.length l0) (hc0 : l0.length ≤ c0) (h : wire_Part.f l0 a1 a2 = some (r1, r2)) :
    Calls Try.prog 43 #[.slice A0 l0.length c0, .int .i64 a1, .int .i64 a2] w fun e w' => ∃ v0_ : Value, e = .returned (.tuple #[v0_, .bool r2]) ∧ Kd.R (Kd.int .u8) 5 w' w.heap.size (fun _ => True) v0_ r1 ∧ Below w.heap.size w w' :=
  Own.wire_Part.calls A0 c0 l0 a1 a2 r1 r2 w hr0 hc0 h
def stockaderef01_Part.f (l0 : List Int) (a1 a2 : Int) : Option (List Int × Bool) := Own.stockaderef01_Part.f l0 a1 a2
theorem stockaderef01_Part.calls (A0 : Option Addr) (c0 : Nat) (l0 : List Int) (a1 a2 : Int) (r1 : List Int) (r2 : Bool) (w : World) (hr0 : Kd.C (Kd.int .u8) w A0 l0.length l0) (hc0 : l0.length ≤ c0) (h : stockaderef01_Part.f l0 a1 a2 = some (r1, r2)) :
    Calls Try.prog 111 #[.slice A0 l0.length c0, .int .i64 a1, .int .i64 a2] w fun e w' => ∃ v0_ : Value, e = .returned (.tuple #[v0_, .bool r2]) ∧ Kd.R (Kd.int .u8) 5 w' w.heap.size (fun _ => True) v0_ r1 ∧ Below w.heap.size w w' :=
  Own.stockaderef01_Part.calls A0 c0 l0 a1 a2 r1 r2 w hr0 hc0 h
def stockaderef01_U16.f (l0 : List Int) (a1 : Int) : Option (Int × Bool) := Own.stockaderef01_U16.f l0 a1
theorem stockaderef01_U16.calls (A0 : Option Addr) (c0 : Nat) (l0 : List Int) (a1 : Int) (r1 : Int) (r2 : Bool) (w : World) (hr0 : Kd.C (Kd.int .u8) w A0 l0.length l0) (hc0 : l0.length ≤ c0) (h : stockaderef01_U16.f l0 a1 = some (r1, r2)) :
    Calls Try.prog 63 #[.slice A0 l0.length c0, .int .i64 a1] w fun e w' => e = .returned (.tuple #[.int .i64 r1, .bool r2]) ∧ Below w.heap.size w w' :=
  Own.stockaderef01_U16.calls A0 c0 l0 a1 r1 r2 w hr0 hc0 h
def stockaderef01_U32.f (l0 : List Int) (a1 : Int) : Option (Int × Bool) := Own.stockaderef01_U32.f l0 a1
theorem stockaderef01_U32.calls (A0 : Option Addr) (c0 : Nat) (l0 : List Int) (a1 : Int) (r1 : Int) (r2 : Bool) (w : World) (hr0 : Kd.C (Kd.int .u8) w A0 l0.length l0) (hc0 : l0.length ≤ c0) (h : stockaderef01_U32.f l0 a1 = some (r1, r2)) :
    Calls Try.prog 168 #[.slice A0 l0.length c0, .int .i64 a1] w fun e w' => e = .returned (.tuple #[.int .u32 r1, .bool r2]) ∧ Below w.heap.size w w' :=
  Own.stockaderef01_U32.calls A0 c0 l0 a1 r1 r2 w hr0 hc0 h
def wire_Put16.f (l0 : List Int) (a1 : Int) : Option (List Int) := Own.wire_Put16.f l0 a1
theorem wire_Put16.calls (A0 : Option Addr) (c0 : Nat) (l0 : List Int) (a1 : Int) (r : List Int) (w : World) (hr0 : Kd.C (Kd.int .u8) w A0 l0.length l0) (hc0 : l0.length ≤ c0) (h : wire_Put16.f l0 a1 = some r) :
    Calls Try.prog 44 #[.slice A0 l0.length c0, .int .i64 a1] w fun e w' => ∃ v0_ : Value, e = .returned (v0_) ∧ Kd.R (Kd.int .u8) 5 w' w.heap.size (fun _ => True) v0_ r ∧ Below w.heap.size w w' :=
  Own.wire_Put16.calls A0 c0 l0 a1 r w hr0 hc0 h
def wire_Put32.f (l0 : List Int) (a1 : Int) : Option (List Int) := Own.wire_Put32.f l0 a1
theorem wire_Put32.calls (A0 : Option Addr) (c0 : Nat) (l0 : List Int) (a1 : Int) (r : List Int) (w : World) (hr0 : Kd.C (Kd.int .u8) w A0 l0.length l0) (hc0 : l0.length ≤ c0) (h : wire_Put32.f l0 a1 = some r) :
    Calls Try.prog 45 #[.slice A0 l0.length c0, .int .u32 a1] w fun e w' => ∃ v0_ : Value, e = .returned (v0_) ∧ Kd.R (Kd.int .u8) 5 w' w.heap.size (fun _ => True) v0_ r ∧ Below w.heap.size w w' :=
  Own.wire_Put32.calls A0 c0 l0 a1 r w hr0 hc0 h
def stockaderef01_Put16.f (l0 : List Int) (a1 : Int) : Option (List Int) := Own.stockaderef01_Put16.f l0 a1
theorem stockaderef01_Put16.calls (A0 : Option Addr) (c0 : Nat) (l0 : List Int) (a1 : Int) (r : List Int) (w : World) (hr0 : Kd.C (Kd.int .u8) w A0 l0.length l0) (hc0 : l0.length ≤ c0) (h : stockaderef01_Put16.f l0 a1 = some r) :
    Calls Try.prog 47 #[.slice A0 l0.length c0, .int .i64 a1] w fun e w' => ∃ v0_ : Value, e = .returned (v0_) ∧ Kd.R (Kd.int .u8) 5 w' w.heap.size (fun _ => True) v0_ r ∧ Below w.heap.size w w' :=
  Own.stockaderef01_Put16.calls A0 c0 l0 a1 r w hr0 hc0 h
def stockaderef01_Put32.f (l0 : List Int) (a1 : Int) : Option (List Int) := Own.stockaderef01_Put32.f l0 a1
theorem stockaderef01_Put32.calls (A0 : Option Addr) (c0 : Nat) (l0 : List Int) (a1 : Int) (r : List Int) (w : World) (hr0 : Kd.C (Kd.int .u8) w A0 l0.length l0) (hc0 : l0.length ≤ c0) (h : stockaderef01_Put32.f l0 a1 = some r) :
    Calls Try.prog 48 #[.slice A0 l0.length c0, .int .u32 a1] w fun e w' => ∃ v0_ : Value, e = .returned (v0_) ∧ Kd.R (Kd.int .u8) 5 w' w.heap.size (fun _ => True) v0_ r ∧ Below w.heap.size w w' :=
  Own.stockaderef01_Put32.calls A0 c0 l0 a1 r w hr0 hc0 h
def stockaderef01_Same.f (l0 l1 : List Int) : Option Bool := Own.stockaderef01_Same.f l0 l1
theorem stockaderef01_Same.calls (A0 : Option Addr) (c0 : Nat) (l0 : List Int) (A1 : Option Addr) (c1 : Nat) (l1 : List Int) (r : Bool) (w : World) (hr0 : Kd.C (Kd.int .u8) w A0 l0.length l0) (hc0 : l0.length ≤ c0) (hr1 : Kd.C (Kd.int .u8) w A1 l1.length l1) (hc1 : l1.length ≤ c1) (h : stockaderef01_Same.f l0 l1 = some r) :
    Calls Try.prog 46 #[.slice A0 l0.length c0, .slice A1 l1.length c1] w fun e w' => e = .returned (.bool r) ∧ Below w.heap.size w w' :=
  (Own.stockaderef01_Same.calls A0 c0 l0 A1 c1 l1 r w hr0 hc0 hr1 hc1 h).mono fun e w' hh => ⟨hh.1, hh.2.below⟩
def slices_Clone_byte_byte.f (l0 : List Int) : Option (List Int) := Own.slices_Clone_byte_byte.f l0
theorem slices_Clone_byte_byte.calls (A0 : Option Addr) (c0 : Nat) (l0 : List Int) (r : List Int) (w : World) (hr0 : Kd.C (Kd.int .u8) w A0 l0.length l0) (hc0 : l0.length ≤ c0) (h : slices_Clone_byte_byte.f l0 = some r) :
    Calls Try.prog 98 #[.slice A0 l0.length c0] w fun e w' => ∃ v0_ : Value, e = .returned (v0_) ∧ Kd.R (Kd.int .u8) 5 w' w.heap.size (fun _ => True) v0_ r ∧ Below w.heap.size w w' :=
  Own.slices_Clone_byte_byte.calls A0 c0 l0 r w hr0 hc0 h
end Go.Proofs.Ytgifcmbknkjemaa.OwnB
