/-
  No cell of these rows narrows 'for every input' (looked for: loops, veiled, ifaces, maps, wideKeys, modest, calm, conditions, laid).
  DERIVED. THE GIVEN ROWS OF THIS SEAT. 36 by the template 'for every input the law returns true; each argument reads behind the call as it read before'; 0 by the template 'total and deterministic' (their statements: YtgifcmbknkjemaaTotals.lean).
  GIVEN WITH THE SEED: the statements are not yours to turn. If you find one false, say at which input.
  Laid BY PROGRAM, IN A SANDBOX (cutbox-rows.mjs): the forced cells as the released guide's own fill.sh prints them over the translation 5c04402b3efe612b… (all of the seat's roots in one cut). By AI agents, Wed Nov 11 2026. No macro, syntax, notation, axiom, sorry.
-/
import Derived.Test.YtgifcmbknkjemaaChecked
import GoSem.Claim
import GoSem.ClaimJoined
import GoSem.ClaimMapViews
import Derived.JoinedTies
import Derived.KernelRfl
namespace Go.Proofs.Ytgifcmbknkjemaa
/- THE CELL 'sum', in the pinned program and in every row, IS THE sha256 OF THE DUMP (.gsa) THAT YtgifcmbknkjemaaProg.lean LOADS. Nothing in Lean hashes anything: it is a label: what it is worth is what the hold of that sum in a sandbox is worth. -/
noncomputable def Try.pinned : Pinned := { name := "ytgifcmbknkjemaa", sum := "5c04402b3efe612b1cbbac87629dfd8342b0b587c2c7e6d635579400e4c83457", checked := Try.checked }
namespace Rows
def none {H : Type} : Left H := { results := [], args := [] }

/-- 'stockadelaw01.WireSums': WHATEVER THE INPUT: true; the input reads as it did. -/
def wireSumsSpec : ChangeSpec := { name := "wireSums", fn := fun _ => fun
  | [d] => { results := [.lit (.bool true)], args := [d] }
  | _ => none }
def wireSumsRow : OpenClaim := { program := "ytgifcmbknkjemaa", sum := "5c04402b3efe612b1cbbac87629dfd8342b0b587c2c7e6d635579400e4c83457", func := "stockade/stockadelaw01.WireSums", spec := "wireSums", plainKeys := false, apart := false }
def WireSumsSaid : Prop := wireSumsRow.holds Try.pinned (OpenSpec.ofChange wireSumsSpec)

/-- ITS FALSE NEIGHBOUR: 'it returns false'. Refute it at one input. -/
def wireSumsWrong : ChangeSpec := { name := "wireSums", fn := fun _ => fun
  | [d] => { results := [.lit (.bool false)], args := [d] }
  | _ => none }
def WireSumsWrongFalsely : Prop := wireSumsRow.holds Try.pinned (OpenSpec.ofChange wireSumsWrong)

/-- 'stockadelaw01.WireJoins': WHATEVER THE INPUT: true; the input reads as it did. -/
def wireJoinsSpec : ChangeSpec := { name := "wireJoins", fn := fun _ => fun
  | [d1, d2, d3] => { results := [.lit (.bool true)], args := [d1, d2, d3] }
  | _ => none }
def wireJoinsRow : OpenClaim := { program := "ytgifcmbknkjemaa", sum := "5c04402b3efe612b1cbbac87629dfd8342b0b587c2c7e6d635579400e4c83457", func := "stockade/stockadelaw01.WireJoins", spec := "wireJoins", plainKeys := false, apart := false }
def WireJoinsSaid : Prop := wireJoinsRow.holds Try.pinned (OpenSpec.ofChange wireJoinsSpec)

/-- ITS FALSE NEIGHBOUR: 'it returns false'. Refute it at one input. -/
def wireJoinsWrong : ChangeSpec := { name := "wireJoins", fn := fun _ => fun
  | [d1, d2, d3] => { results := [.lit (.bool false)], args := [d1, d2, d3] }
  | _ => none }
def WireJoinsWrongFalsely : Prop := wireJoinsRow.holds Try.pinned (OpenSpec.ofChange wireJoinsWrong)

/-- 'stockadelaw01.WireTurns': WHATEVER THE INPUT: true; the input reads as it did. -/
def wireTurnsSpec : ChangeSpec := { name := "wireTurns", fn := fun _ => fun
  | [d1, d2, d3] => { results := [.lit (.bool true)], args := [d1, d2, d3] }
  | _ => none }
def wireTurnsRow : OpenClaim := { program := "ytgifcmbknkjemaa", sum := "5c04402b3efe612b1cbbac87629dfd8342b0b587c2c7e6d635579400e4c83457", func := "stockade/stockadelaw01.WireTurns", spec := "wireTurns", plainKeys := false, apart := false }
def WireTurnsSaid : Prop := wireTurnsRow.holds Try.pinned (OpenSpec.ofChange wireTurnsSpec)

/-- ITS FALSE NEIGHBOUR: 'it returns false'. Refute it at one input. -/
def wireTurnsWrong : ChangeSpec := { name := "wireTurns", fn := fun _ => fun
  | [d1, d2, d3] => { results := [.lit (.bool false)], args := [d1, d2, d3] }
  | _ => none }
def WireTurnsWrongFalsely : Prop := wireTurnsRow.holds Try.pinned (OpenSpec.ofChange wireTurnsWrong)

/-- 'stockadelaw01.WireChecked': WHATEVER THE INPUT: true; the input reads as it did. -/
def wireCheckedSpec : ChangeSpec := { name := "wireChecked", fn := fun _ => fun
  | [d1, d2, d3] => { results := [.lit (.bool true)], args := [d1, d2, d3] }
  | _ => none }
def wireCheckedRow : OpenClaim := { program := "ytgifcmbknkjemaa", sum := "5c04402b3efe612b1cbbac87629dfd8342b0b587c2c7e6d635579400e4c83457", func := "stockade/stockadelaw01.WireChecked", spec := "wireChecked", plainKeys := false, apart := false }
def WireCheckedSaid : Prop := wireCheckedRow.holds Try.pinned (OpenSpec.ofChange wireCheckedSpec)

/-- ITS FALSE NEIGHBOUR: 'it returns false'. Refute it at one input. -/
def wireCheckedWrong : ChangeSpec := { name := "wireChecked", fn := fun _ => fun
  | [d1, d2, d3] => { results := [.lit (.bool false)], args := [d1, d2, d3] }
  | _ => none }
def WireCheckedWrongFalsely : Prop := wireCheckedRow.holds Try.pinned (OpenSpec.ofChange wireCheckedWrong)

/-- 'stockadelaw01.WireOwn': WHATEVER THE INPUT: true; the input reads as it did. -/
def wireOwnSpec : ChangeSpec := { name := "wireOwn", fn := fun _ => fun
  | [d1, d2, d3] => { results := [.lit (.bool true)], args := [d1, d2, d3] }
  | _ => none }
def wireOwnRow : OpenClaim := { program := "ytgifcmbknkjemaa", sum := "5c04402b3efe612b1cbbac87629dfd8342b0b587c2c7e6d635579400e4c83457", func := "stockade/stockadelaw01.WireOwn", spec := "wireOwn", plainKeys := false, apart := false }
def WireOwnSaid : Prop := wireOwnRow.holds Try.pinned (OpenSpec.ofChange wireOwnSpec)

/-- ITS FALSE NEIGHBOUR: 'it returns false'. Refute it at one input. -/
def wireOwnWrong : ChangeSpec := { name := "wireOwn", fn := fun _ => fun
  | [d1, d2, d3] => { results := [.lit (.bool false)], args := [d1, d2, d3] }
  | _ => none }
def WireOwnWrongFalsely : Prop := wireOwnRow.holds Try.pinned (OpenSpec.ofChange wireOwnWrong)

/-- 'stockadelaw01.WirePuts': WHATEVER THE INPUT: true; the input reads as it did. -/
def wirePutsSpec : ChangeSpec := { name := "wirePuts", fn := fun _ => fun
  | [d1, d2, d3] => { results := [.lit (.bool true)], args := [d1, d2, d3] }
  | _ => none }
def wirePutsRow : OpenClaim := { program := "ytgifcmbknkjemaa", sum := "5c04402b3efe612b1cbbac87629dfd8342b0b587c2c7e6d635579400e4c83457", func := "stockade/stockadelaw01.WirePuts", spec := "wirePuts", plainKeys := false, apart := false }
def WirePutsSaid : Prop := wirePutsRow.holds Try.pinned (OpenSpec.ofChange wirePutsSpec)

/-- ITS FALSE NEIGHBOUR: 'it returns false'. Refute it at one input. -/
def wirePutsWrong : ChangeSpec := { name := "wirePuts", fn := fun _ => fun
  | [d1, d2, d3] => { results := [.lit (.bool false)], args := [d1, d2, d3] }
  | _ => none }
def WirePutsWrongFalsely : Prop := wirePutsRow.holds Try.pinned (OpenSpec.ofChange wirePutsWrong)

/-- 'stockadelaw04.Ip6Walks': WHATEVER THE INPUT: true; the input reads as it did. -/
def ip6WalksSpec : ChangeSpec := { name := "ip6Walks", fn := fun _ => fun
  | [d1, d2] => { results := [.lit (.bool true)], args := [d1, d2] }
  | _ => none }
def ip6WalksRow : OpenClaim := { program := "ytgifcmbknkjemaa", sum := "5c04402b3efe612b1cbbac87629dfd8342b0b587c2c7e6d635579400e4c83457", func := "stockade/stockadelaw04.Ip6Walks", spec := "ip6Walks", unfollowed := true, recurses := true, plainKeys := false, apart := false }
def Ip6WalksSaid : Prop := ip6WalksRow.holds Try.pinned (OpenSpec.ofChange ip6WalksSpec)

/-- ITS FALSE NEIGHBOUR: 'it returns false'. Refute it at one input. -/
def ip6WalksWrong : ChangeSpec := { name := "ip6Walks", fn := fun _ => fun
  | [d1, d2] => { results := [.lit (.bool false)], args := [d1, d2] }
  | _ => none }
def Ip6WalksWrongFalsely : Prop := ip6WalksRow.holds Try.pinned (OpenSpec.ofChange ip6WalksWrong)

/-- 'stockadelaw04.Ip6Reads': WHATEVER THE INPUT: true; the input reads as it did. -/
def ip6ReadsSpec : ChangeSpec := { name := "ip6Reads", fn := fun _ => fun
  | [d] => { results := [.lit (.bool true)], args := [d] }
  | _ => none }
def ip6ReadsRow : OpenClaim := { program := "ytgifcmbknkjemaa", sum := "5c04402b3efe612b1cbbac87629dfd8342b0b587c2c7e6d635579400e4c83457", func := "stockade/stockadelaw04.Ip6Reads", spec := "ip6Reads", unfollowed := true, recurses := true, plainKeys := false, apart := false }
def Ip6ReadsSaid : Prop := ip6ReadsRow.holds Try.pinned (OpenSpec.ofChange ip6ReadsSpec)

/-- ITS FALSE NEIGHBOUR: 'it returns false'. Refute it at one input. -/
def ip6ReadsWrong : ChangeSpec := { name := "ip6Reads", fn := fun _ => fun
  | [d] => { results := [.lit (.bool false)], args := [d] }
  | _ => none }
def Ip6ReadsWrongFalsely : Prop := ip6ReadsRow.holds Try.pinned (OpenSpec.ofChange ip6ReadsWrong)

/-- 'stockadetop.TopWires': WHATEVER THE INPUT: true; the input reads as it did. -/
def topWiresSpec : ChangeSpec := { name := "topWires", fn := fun _ => fun
  | [d1, d2, d3] => { results := [.lit (.bool true)], args := [d1, d2, d3] }
  | _ => none }
def topWiresRow : OpenClaim := { program := "ytgifcmbknkjemaa", sum := "5c04402b3efe612b1cbbac87629dfd8342b0b587c2c7e6d635579400e4c83457", func := "stockade/stockadetop.TopWires", spec := "topWires", inPlace := ["slices.overlaps[stockade/api.Ip]"], unfollowed := true, recurses := true, plainKeys := false, apart := false }
def TopWiresSaid : Prop := topWiresRow.holds Try.pinned (OpenSpec.ofChange topWiresSpec)

/-- ITS FALSE NEIGHBOUR: 'it returns false'. Refute it at one input. -/
def topWiresWrong : ChangeSpec := { name := "topWires", fn := fun _ => fun
  | [d1, d2, d3] => { results := [.lit (.bool false)], args := [d1, d2, d3] }
  | _ => none }
def TopWiresWrongFalsely : Prop := topWiresRow.holds Try.pinned (OpenSpec.ofChange topWiresWrong)

/-- 'stockadelaw04.Ip6Behind': WHATEVER THE INPUT: true; the input reads as it did. -/
def ip6BehindSpec : ChangeSpec := { name := "ip6Behind", fn := fun _ => fun
  | [d1, d2] => { results := [.lit (.bool true)], args := [d1, d2] }
  | _ => none }
def ip6BehindRow : OpenClaim := { program := "ytgifcmbknkjemaa", sum := "5c04402b3efe612b1cbbac87629dfd8342b0b587c2c7e6d635579400e4c83457", func := "stockade/stockadelaw04.Ip6Behind", spec := "ip6Behind", unfollowed := true, recurses := true, plainKeys := false, apart := false }
def Ip6BehindSaid : Prop := ip6BehindRow.holds Try.pinned (OpenSpec.ofChange ip6BehindSpec)

/-- ITS FALSE NEIGHBOUR: 'it returns false'. Refute it at one input. -/
def ip6BehindWrong : ChangeSpec := { name := "ip6Behind", fn := fun _ => fun
  | [d1, d2] => { results := [.lit (.bool false)], args := [d1, d2] }
  | _ => none }
def Ip6BehindWrongFalsely : Prop := ip6BehindRow.holds Try.pinned (OpenSpec.ofChange ip6BehindWrong)

/-- 'stockadelaw04.Ip6Same': WHATEVER THE INPUT: true; the input reads as it did. -/
def ip6SameSpec : ChangeSpec := { name := "ip6Same", fn := fun _ => fun
  | [d] => { results := [.lit (.bool true)], args := [d] }
  | _ => none }
def ip6SameRow : OpenClaim := { program := "ytgifcmbknkjemaa", sum := "5c04402b3efe612b1cbbac87629dfd8342b0b587c2c7e6d635579400e4c83457", func := "stockade/stockadelaw04.Ip6Same", spec := "ip6Same", unfollowed := true, recurses := true, plainKeys := false, apart := false }
def Ip6SameSaid : Prop := ip6SameRow.holds Try.pinned (OpenSpec.ofChange ip6SameSpec)

/-- ITS FALSE NEIGHBOUR: 'it returns false'. Refute it at one input. -/
def ip6SameWrong : ChangeSpec := { name := "ip6Same", fn := fun _ => fun
  | [d] => { results := [.lit (.bool false)], args := [d] }
  | _ => none }
def Ip6SameWrongFalsely : Prop := ip6SameRow.holds Try.pinned (OpenSpec.ofChange ip6SameWrong)

/-- 'stockadelaw04.Ip6Own': WHATEVER THE INPUT: true; the input reads as it did. -/
def ip6OwnSpec : ChangeSpec := { name := "ip6Own", fn := fun _ => fun
  | [d] => { results := [.lit (.bool true)], args := [d] }
  | _ => none }
def ip6OwnRow : OpenClaim := { program := "ytgifcmbknkjemaa", sum := "5c04402b3efe612b1cbbac87629dfd8342b0b587c2c7e6d635579400e4c83457", func := "stockade/stockadelaw04.Ip6Own", spec := "ip6Own", unfollowed := true, recurses := true, plainKeys := false, apart := false }
def Ip6OwnSaid : Prop := ip6OwnRow.holds Try.pinned (OpenSpec.ofChange ip6OwnSpec)

/-- ITS FALSE NEIGHBOUR: 'it returns false'. Refute it at one input. -/
def ip6OwnWrong : ChangeSpec := { name := "ip6Own", fn := fun _ => fun
  | [d] => { results := [.lit (.bool false)], args := [d] }
  | _ => none }
def Ip6OwnWrongFalsely : Prop := ip6OwnRow.holds Try.pinned (OpenSpec.ofChange ip6OwnWrong)

/-- 'stockadelaw03.Ip4Reads': WHATEVER THE INPUT: true; the input reads as it did. -/
def ip4ReadsSpec : ChangeSpec := { name := "ip4Reads", fn := fun _ => fun
  | [d] => { results := [.lit (.bool true)], args := [d] }
  | _ => none }
def ip4ReadsRow : OpenClaim := { program := "ytgifcmbknkjemaa", sum := "5c04402b3efe612b1cbbac87629dfd8342b0b587c2c7e6d635579400e4c83457", func := "stockade/stockadelaw03.Ip4Reads", spec := "ip4Reads", unfollowed := true, recurses := true, plainKeys := false, apart := false }
def Ip4ReadsSaid : Prop := ip4ReadsRow.holds Try.pinned (OpenSpec.ofChange ip4ReadsSpec)

/-- ITS FALSE NEIGHBOUR: 'it returns false'. Refute it at one input. -/
def ip4ReadsWrong : ChangeSpec := { name := "ip4Reads", fn := fun _ => fun
  | [d] => { results := [.lit (.bool false)], args := [d] }
  | _ => none }
def Ip4ReadsWrongFalsely : Prop := ip4ReadsRow.holds Try.pinned (OpenSpec.ofChange ip4ReadsWrong)

/-- 'stockadelaw03.Ip4Writes': WHATEVER THE INPUT: true; the input reads as it did. -/
def ip4WritesSpec : ChangeSpec := { name := "ip4Writes", fn := fun _ => fun
  | [d] => { results := [.lit (.bool true)], args := [d] }
  | _ => none }
def ip4WritesRow : OpenClaim := { program := "ytgifcmbknkjemaa", sum := "5c04402b3efe612b1cbbac87629dfd8342b0b587c2c7e6d635579400e4c83457", func := "stockade/stockadelaw03.Ip4Writes", spec := "ip4Writes", unfollowed := true, recurses := true, plainKeys := false, apart := false }
def Ip4WritesSaid : Prop := ip4WritesRow.holds Try.pinned (OpenSpec.ofChange ip4WritesSpec)

/-- ITS FALSE NEIGHBOUR: 'it returns false'. Refute it at one input. -/
def ip4WritesWrong : ChangeSpec := { name := "ip4Writes", fn := fun _ => fun
  | [d] => { results := [.lit (.bool false)], args := [d] }
  | _ => none }
def Ip4WritesWrongFalsely : Prop := ip4WritesRow.holds Try.pinned (OpenSpec.ofChange ip4WritesWrong)

/-- 'stockadelaw03.Ip4Back': WHATEVER THE INPUT: true; the input reads as it did. -/
def ip4BackSpec : ChangeSpec := { name := "ip4Back", fn := fun _ => fun
  | [d] => { results := [.lit (.bool true)], args := [d] }
  | _ => none }
def ip4BackRow : OpenClaim := { program := "ytgifcmbknkjemaa", sum := "5c04402b3efe612b1cbbac87629dfd8342b0b587c2c7e6d635579400e4c83457", func := "stockade/stockadelaw03.Ip4Back", spec := "ip4Back", unfollowed := true, recurses := true, plainKeys := false, apart := false }
def Ip4BackSaid : Prop := ip4BackRow.holds Try.pinned (OpenSpec.ofChange ip4BackSpec)

/-- ITS FALSE NEIGHBOUR: 'it returns false'. Refute it at one input. -/
def ip4BackWrong : ChangeSpec := { name := "ip4Back", fn := fun _ => fun
  | [d] => { results := [.lit (.bool false)], args := [d] }
  | _ => none }
def Ip4BackWrongFalsely : Prop := ip4BackRow.holds Try.pinned (OpenSpec.ofChange ip4BackWrong)

/-- 'stockadelaw03.Ip4Behind': WHATEVER THE INPUT: true; the input reads as it did. -/
def ip4BehindSpec : ChangeSpec := { name := "ip4Behind", fn := fun _ => fun
  | [d1, d2] => { results := [.lit (.bool true)], args := [d1, d2] }
  | _ => none }
def ip4BehindRow : OpenClaim := { program := "ytgifcmbknkjemaa", sum := "5c04402b3efe612b1cbbac87629dfd8342b0b587c2c7e6d635579400e4c83457", func := "stockade/stockadelaw03.Ip4Behind", spec := "ip4Behind", unfollowed := true, recurses := true, plainKeys := false, apart := false }
def Ip4BehindSaid : Prop := ip4BehindRow.holds Try.pinned (OpenSpec.ofChange ip4BehindSpec)

/-- ITS FALSE NEIGHBOUR: 'it returns false'. Refute it at one input. -/
def ip4BehindWrong : ChangeSpec := { name := "ip4Behind", fn := fun _ => fun
  | [d1, d2] => { results := [.lit (.bool false)], args := [d1, d2] }
  | _ => none }
def Ip4BehindWrongFalsely : Prop := ip4BehindRow.holds Try.pinned (OpenSpec.ofChange ip4BehindWrong)

/-- 'stockadelaw03.Ip4Turned': WHATEVER THE INPUT: true; the input reads as it did. -/
def ip4TurnedSpec : ChangeSpec := { name := "ip4Turned", fn := fun _ => fun
  | [d1, d2, d3] => { results := [.lit (.bool true)], args := [d1, d2, d3] }
  | _ => none }
def ip4TurnedRow : OpenClaim := { program := "ytgifcmbknkjemaa", sum := "5c04402b3efe612b1cbbac87629dfd8342b0b587c2c7e6d635579400e4c83457", func := "stockade/stockadelaw03.Ip4Turned", spec := "ip4Turned", unfollowed := true, recurses := true, plainKeys := false, apart := false }
def Ip4TurnedSaid : Prop := ip4TurnedRow.holds Try.pinned (OpenSpec.ofChange ip4TurnedSpec)

/-- ITS FALSE NEIGHBOUR: 'it returns false'. Refute it at one input. -/
def ip4TurnedWrong : ChangeSpec := { name := "ip4Turned", fn := fun _ => fun
  | [d1, d2, d3] => { results := [.lit (.bool false)], args := [d1, d2, d3] }
  | _ => none }
def Ip4TurnedWrongFalsely : Prop := ip4TurnedRow.holds Try.pinned (OpenSpec.ofChange ip4TurnedWrong)

/-- 'stockadelaw03.Ip4Short': WHATEVER THE INPUT: true; the input reads as it did. -/
def ip4ShortSpec : ChangeSpec := { name := "ip4Short", fn := fun _ => fun
  | [d1, d2] => { results := [.lit (.bool true)], args := [d1, d2] }
  | _ => none }
def ip4ShortRow : OpenClaim := { program := "ytgifcmbknkjemaa", sum := "5c04402b3efe612b1cbbac87629dfd8342b0b587c2c7e6d635579400e4c83457", func := "stockade/stockadelaw03.Ip4Short", spec := "ip4Short", unfollowed := true, recurses := true, plainKeys := false, apart := false }
def Ip4ShortSaid : Prop := ip4ShortRow.holds Try.pinned (OpenSpec.ofChange ip4ShortSpec)

/-- ITS FALSE NEIGHBOUR: 'it returns false'. Refute it at one input. -/
def ip4ShortWrong : ChangeSpec := { name := "ip4Short", fn := fun _ => fun
  | [d1, d2] => { results := [.lit (.bool false)], args := [d1, d2] }
  | _ => none }
def Ip4ShortWrongFalsely : Prop := ip4ShortRow.holds Try.pinned (OpenSpec.ofChange ip4ShortWrong)

/-- 'stockadelaw03.Ip4Own': WHATEVER THE INPUT: true; the input reads as it did. -/
def ip4OwnSpec : ChangeSpec := { name := "ip4Own", fn := fun _ => fun
  | [d] => { results := [.lit (.bool true)], args := [d] }
  | _ => none }
def ip4OwnRow : OpenClaim := { program := "ytgifcmbknkjemaa", sum := "5c04402b3efe612b1cbbac87629dfd8342b0b587c2c7e6d635579400e4c83457", func := "stockade/stockadelaw03.Ip4Own", spec := "ip4Own", unfollowed := true, recurses := true, plainKeys := false, apart := false }
def Ip4OwnSaid : Prop := ip4OwnRow.holds Try.pinned (OpenSpec.ofChange ip4OwnSpec)

/-- ITS FALSE NEIGHBOUR: 'it returns false'. Refute it at one input. -/
def ip4OwnWrong : ChangeSpec := { name := "ip4Own", fn := fun _ => fun
  | [d] => { results := [.lit (.bool false)], args := [d] }
  | _ => none }
def Ip4OwnWrongFalsely : Prop := ip4OwnRow.holds Try.pinned (OpenSpec.ofChange ip4OwnWrong)

/-- 'stockadelaw04.Ip6Writes': WHATEVER THE INPUT: true; the input reads as it did. -/
def ip6WritesSpec : ChangeSpec := { name := "ip6Writes", fn := fun _ => fun
  | [d] => { results := [.lit (.bool true)], args := [d] }
  | _ => none }
def ip6WritesRow : OpenClaim := { program := "ytgifcmbknkjemaa", sum := "5c04402b3efe612b1cbbac87629dfd8342b0b587c2c7e6d635579400e4c83457", func := "stockade/stockadelaw04.Ip6Writes", spec := "ip6Writes", unfollowed := true, recurses := true, plainKeys := false, apart := false }
def Ip6WritesSaid : Prop := ip6WritesRow.holds Try.pinned (OpenSpec.ofChange ip6WritesSpec)

/-- ITS FALSE NEIGHBOUR: 'it returns false'. Refute it at one input. -/
def ip6WritesWrong : ChangeSpec := { name := "ip6Writes", fn := fun _ => fun
  | [d] => { results := [.lit (.bool false)], args := [d] }
  | _ => none }
def Ip6WritesWrongFalsely : Prop := ip6WritesRow.holds Try.pinned (OpenSpec.ofChange ip6WritesWrong)

/-- 'stockadelaw06.FragApart': WHATEVER THE INPUT: true; the input reads as it did. -/
def fragApartSpec : ChangeSpec := { name := "fragApart", fn := fun _ => fun
  | [d1, d2, d3] => { results := [.lit (.bool true)], args := [d1, d2, d3] }
  | _ => none }
def fragApartRow : OpenClaim := { program := "ytgifcmbknkjemaa", sum := "5c04402b3efe612b1cbbac87629dfd8342b0b587c2c7e6d635579400e4c83457", func := "stockade/stockadelaw06.FragApart", spec := "fragApart", inPlace := ["slices.overlaps[stockade/api.Ip]"], unfollowed := true, recurses := true, plainKeys := false, apart := false }
def FragApartSaid : Prop := fragApartRow.holds Try.pinned (OpenSpec.ofChange fragApartSpec)

/-- ITS FALSE NEIGHBOUR: 'it returns false'. Refute it at one input. -/
def fragApartWrong : ChangeSpec := { name := "fragApart", fn := fun _ => fun
  | [d1, d2, d3] => { results := [.lit (.bool false)], args := [d1, d2, d3] }
  | _ => none }
def FragApartWrongFalsely : Prop := fragApartRow.holds Try.pinned (OpenSpec.ofChange fragApartWrong)

/-- 'stockadelaw06.FragOwn': WHATEVER THE INPUT: true; the input reads as it did. -/
def fragOwnSpec : ChangeSpec := { name := "fragOwn", fn := fun _ => fun
  | [d1, d2, d3] => { results := [.lit (.bool true)], args := [d1, d2, d3] }
  | _ => none }
def fragOwnRow : OpenClaim := { program := "ytgifcmbknkjemaa", sum := "5c04402b3efe612b1cbbac87629dfd8342b0b587c2c7e6d635579400e4c83457", func := "stockade/stockadelaw06.FragOwn", spec := "fragOwn", inPlace := ["slices.overlaps[stockade/api.Ip]"], unfollowed := true, recurses := true, plainKeys := false, apart := false }
def FragOwnSaid : Prop := fragOwnRow.holds Try.pinned (OpenSpec.ofChange fragOwnSpec)

/-- ITS FALSE NEIGHBOUR: 'it returns false'. Refute it at one input. -/
def fragOwnWrong : ChangeSpec := { name := "fragOwn", fn := fun _ => fun
  | [d1, d2, d3] => { results := [.lit (.bool false)], args := [d1, d2, d3] }
  | _ => none }
def FragOwnWrongFalsely : Prop := fragOwnRow.holds Try.pinned (OpenSpec.ofChange fragOwnWrong)

/-- 'stockadelaw06.FragOrder': WHATEVER THE INPUT: true; the input reads as it did. -/
def fragOrderSpec : ChangeSpec := { name := "fragOrder", fn := fun _ => fun
  | [d1, d2, d3] => { results := [.lit (.bool true)], args := [d1, d2, d3] }
  | _ => none }
def fragOrderRow : OpenClaim := { program := "ytgifcmbknkjemaa", sum := "5c04402b3efe612b1cbbac87629dfd8342b0b587c2c7e6d635579400e4c83457", func := "stockade/stockadelaw06.FragOrder", spec := "fragOrder", inPlace := ["slices.overlaps[stockade/api.Ip]"], unfollowed := true, recurses := true, plainKeys := false, apart := false }
def FragOrderSaid : Prop := fragOrderRow.holds Try.pinned (OpenSpec.ofChange fragOrderSpec)

/-- ITS FALSE NEIGHBOUR: 'it returns false'. Refute it at one input. -/
def fragOrderWrong : ChangeSpec := { name := "fragOrder", fn := fun _ => fun
  | [d1, d2, d3] => { results := [.lit (.bool false)], args := [d1, d2, d3] }
  | _ => none }
def FragOrderWrongFalsely : Prop := fragOrderRow.holds Try.pinned (OpenSpec.ofChange fragOrderWrong)

/-- 'stockadelaw06.FragBounds': WHATEVER THE INPUT: true; the input reads as it did. -/
def fragBoundsSpec : ChangeSpec := { name := "fragBounds", fn := fun _ => fun
  | [d1, d2] => { results := [.lit (.bool true)], args := [d1, d2] }
  | _ => none }
def fragBoundsRow : OpenClaim := { program := "ytgifcmbknkjemaa", sum := "5c04402b3efe612b1cbbac87629dfd8342b0b587c2c7e6d635579400e4c83457", func := "stockade/stockadelaw06.FragBounds", spec := "fragBounds", inPlace := ["slices.overlaps[stockade/api.Ip]"], unfollowed := true, recurses := true, plainKeys := false, apart := false }
def FragBoundsSaid : Prop := fragBoundsRow.holds Try.pinned (OpenSpec.ofChange fragBoundsSpec)

/-- ITS FALSE NEIGHBOUR: 'it returns false'. Refute it at one input. -/
def fragBoundsWrong : ChangeSpec := { name := "fragBounds", fn := fun _ => fun
  | [d1, d2] => { results := [.lit (.bool false)], args := [d1, d2] }
  | _ => none }
def FragBoundsWrongFalsely : Prop := fragBoundsRow.holds Try.pinned (OpenSpec.ofChange fragBoundsWrong)

/-- 'stockadelaw06.FragOver': WHATEVER THE INPUT: true; the input reads as it did. -/
def fragOverSpec : ChangeSpec := { name := "fragOver", fn := fun _ => fun
  | [d1, d2, d3] => { results := [.lit (.bool true)], args := [d1, d2, d3] }
  | _ => none }
def fragOverRow : OpenClaim := { program := "ytgifcmbknkjemaa", sum := "5c04402b3efe612b1cbbac87629dfd8342b0b587c2c7e6d635579400e4c83457", func := "stockade/stockadelaw06.FragOver", spec := "fragOver", inPlace := ["slices.overlaps[stockade/api.Ip]"], unfollowed := true, recurses := true, plainKeys := false, apart := false }
def FragOverSaid : Prop := fragOverRow.holds Try.pinned (OpenSpec.ofChange fragOverSpec)

/-- ITS FALSE NEIGHBOUR: 'it returns false'. Refute it at one input. -/
def fragOverWrong : ChangeSpec := { name := "fragOver", fn := fun _ => fun
  | [d1, d2, d3] => { results := [.lit (.bool false)], args := [d1, d2, d3] }
  | _ => none }
def FragOverWrongFalsely : Prop := fragOverRow.holds Try.pinned (OpenSpec.ofChange fragOverWrong)

/-- 'stockadelaw04.Ip6Back': WHATEVER THE INPUT: true; the input reads as it did. -/
def ip6BackSpec : ChangeSpec := { name := "ip6Back", fn := fun _ => fun
  | [d] => { results := [.lit (.bool true)], args := [d] }
  | _ => none }
def ip6BackRow : OpenClaim := { program := "ytgifcmbknkjemaa", sum := "5c04402b3efe612b1cbbac87629dfd8342b0b587c2c7e6d635579400e4c83457", func := "stockade/stockadelaw04.Ip6Back", spec := "ip6Back", unfollowed := true, recurses := true, plainKeys := false, apart := false }
def Ip6BackSaid : Prop := ip6BackRow.holds Try.pinned (OpenSpec.ofChange ip6BackSpec)

/-- ITS FALSE NEIGHBOUR: 'it returns false'. Refute it at one input. -/
def ip6BackWrong : ChangeSpec := { name := "ip6Back", fn := fun _ => fun
  | [d] => { results := [.lit (.bool false)], args := [d] }
  | _ => none }
def Ip6BackWrongFalsely : Prop := ip6BackRow.holds Try.pinned (OpenSpec.ofChange ip6BackWrong)

/-- 'stockadelaw06.FragPlays': WHATEVER THE INPUT: true; the input reads as it did. -/
def fragPlaysSpec : ChangeSpec := { name := "fragPlays", fn := fun _ => fun
  | [d1, d2] => { results := [.lit (.bool true)], args := [d1, d2] }
  | _ => none }
def fragPlaysRow : OpenClaim := { program := "ytgifcmbknkjemaa", sum := "5c04402b3efe612b1cbbac87629dfd8342b0b587c2c7e6d635579400e4c83457", func := "stockade/stockadelaw06.FragPlays", spec := "fragPlays", inPlace := ["slices.overlaps[stockade/api.Ip]"], unfollowed := true, recurses := true, plainKeys := false, apart := false }
def FragPlaysSaid : Prop := fragPlaysRow.holds Try.pinned (OpenSpec.ofChange fragPlaysSpec)

/-- ITS FALSE NEIGHBOUR: 'it returns false'. Refute it at one input. -/
def fragPlaysWrong : ChangeSpec := { name := "fragPlays", fn := fun _ => fun
  | [d1, d2] => { results := [.lit (.bool false)], args := [d1, d2] }
  | _ => none }
def FragPlaysWrongFalsely : Prop := fragPlaysRow.holds Try.pinned (OpenSpec.ofChange fragPlaysWrong)

/-- 'stockadelaw06.FragGone': WHATEVER THE INPUT: true; the input reads as it did. -/
def fragGoneSpec : ChangeSpec := { name := "fragGone", fn := fun _ => fun
  | [d1, d2, d3] => { results := [.lit (.bool true)], args := [d1, d2, d3] }
  | _ => none }
def fragGoneRow : OpenClaim := { program := "ytgifcmbknkjemaa", sum := "5c04402b3efe612b1cbbac87629dfd8342b0b587c2c7e6d635579400e4c83457", func := "stockade/stockadelaw06.FragGone", spec := "fragGone", inPlace := ["slices.overlaps[stockade/api.Ip]"], unfollowed := true, recurses := true, plainKeys := false, apart := false }
def FragGoneSaid : Prop := fragGoneRow.holds Try.pinned (OpenSpec.ofChange fragGoneSpec)

/-- ITS FALSE NEIGHBOUR: 'it returns false'. Refute it at one input. -/
def fragGoneWrong : ChangeSpec := { name := "fragGone", fn := fun _ => fun
  | [d1, d2, d3] => { results := [.lit (.bool false)], args := [d1, d2, d3] }
  | _ => none }
def FragGoneWrongFalsely : Prop := fragGoneRow.holds Try.pinned (OpenSpec.ofChange fragGoneWrong)

/-- 'stockadelaw06.FragNobody': WHATEVER THE INPUT: true; the input reads as it did. -/
def fragNobodySpec : ChangeSpec := { name := "fragNobody", fn := fun _ => fun
  | [d] => { results := [.lit (.bool true)], args := [d] }
  | _ => none }
def fragNobodyRow : OpenClaim := { program := "ytgifcmbknkjemaa", sum := "5c04402b3efe612b1cbbac87629dfd8342b0b587c2c7e6d635579400e4c83457", func := "stockade/stockadelaw06.FragNobody", spec := "fragNobody", inPlace := ["slices.overlaps[stockade/api.Ip]"], unfollowed := true, recurses := true, plainKeys := false, apart := false }
def FragNobodySaid : Prop := fragNobodyRow.holds Try.pinned (OpenSpec.ofChange fragNobodySpec)

/-- ITS FALSE NEIGHBOUR: 'it returns false'. Refute it at one input. -/
def fragNobodyWrong : ChangeSpec := { name := "fragNobody", fn := fun _ => fun
  | [d] => { results := [.lit (.bool false)], args := [d] }
  | _ => none }
def FragNobodyWrongFalsely : Prop := fragNobodyRow.holds Try.pinned (OpenSpec.ofChange fragNobodyWrong)

/-- 'stockadelaw05.SegPseudos': WHATEVER THE INPUT: true; the input reads as it did. -/
def segPseudosSpec : ChangeSpec := { name := "segPseudos", fn := fun _ => fun
  | [d1, d2, d3] => { results := [.lit (.bool true)], args := [d1, d2, d3] }
  | _ => none }
def segPseudosRow : OpenClaim := { program := "ytgifcmbknkjemaa", sum := "5c04402b3efe612b1cbbac87629dfd8342b0b587c2c7e6d635579400e4c83457", func := "stockade/stockadelaw05.SegPseudos", spec := "segPseudos", unfollowed := true, recurses := true, plainKeys := false, apart := false }
def SegPseudosSaid : Prop := segPseudosRow.holds Try.pinned (OpenSpec.ofChange segPseudosSpec)

/-- ITS FALSE NEIGHBOUR: 'it returns false'. Refute it at one input. -/
def segPseudosWrong : ChangeSpec := { name := "segPseudos", fn := fun _ => fun
  | [d1, d2, d3] => { results := [.lit (.bool false)], args := [d1, d2, d3] }
  | _ => none }
def SegPseudosWrongFalsely : Prop := segPseudosRow.holds Try.pinned (OpenSpec.ofChange segPseudosWrong)

/-- 'stockadelaw05.SegReads': WHATEVER THE INPUT: true; the input reads as it did. -/
def segReadsSpec : ChangeSpec := { name := "segReads", fn := fun _ => fun
  | [d] => { results := [.lit (.bool true)], args := [d] }
  | _ => none }
def segReadsRow : OpenClaim := { program := "ytgifcmbknkjemaa", sum := "5c04402b3efe612b1cbbac87629dfd8342b0b587c2c7e6d635579400e4c83457", func := "stockade/stockadelaw05.SegReads", spec := "segReads", unfollowed := true, recurses := true, plainKeys := false, apart := false }
def SegReadsSaid : Prop := segReadsRow.holds Try.pinned (OpenSpec.ofChange segReadsSpec)

/-- ITS FALSE NEIGHBOUR: 'it returns false'. Refute it at one input. -/
def segReadsWrong : ChangeSpec := { name := "segReads", fn := fun _ => fun
  | [d] => { results := [.lit (.bool false)], args := [d] }
  | _ => none }
def SegReadsWrongFalsely : Prop := segReadsRow.holds Try.pinned (OpenSpec.ofChange segReadsWrong)

/-- 'stockadelaw05.SegWrites': WHATEVER THE INPUT: true; the input reads as it did. -/
def segWritesSpec : ChangeSpec := { name := "segWrites", fn := fun _ => fun
  | [d] => { results := [.lit (.bool true)], args := [d] }
  | _ => none }
def segWritesRow : OpenClaim := { program := "ytgifcmbknkjemaa", sum := "5c04402b3efe612b1cbbac87629dfd8342b0b587c2c7e6d635579400e4c83457", func := "stockade/stockadelaw05.SegWrites", spec := "segWrites", unfollowed := true, recurses := true, plainKeys := false, apart := false }
def SegWritesSaid : Prop := segWritesRow.holds Try.pinned (OpenSpec.ofChange segWritesSpec)

/-- ITS FALSE NEIGHBOUR: 'it returns false'. Refute it at one input. -/
def segWritesWrong : ChangeSpec := { name := "segWrites", fn := fun _ => fun
  | [d] => { results := [.lit (.bool false)], args := [d] }
  | _ => none }
def SegWritesWrongFalsely : Prop := segWritesRow.holds Try.pinned (OpenSpec.ofChange segWritesWrong)

/-- 'stockadelaw05.SegBack': WHATEVER THE INPUT: true; the input reads as it did. -/
def segBackSpec : ChangeSpec := { name := "segBack", fn := fun _ => fun
  | [d] => { results := [.lit (.bool true)], args := [d] }
  | _ => none }
def segBackRow : OpenClaim := { program := "ytgifcmbknkjemaa", sum := "5c04402b3efe612b1cbbac87629dfd8342b0b587c2c7e6d635579400e4c83457", func := "stockade/stockadelaw05.SegBack", spec := "segBack", unfollowed := true, recurses := true, plainKeys := false, apart := false }
def SegBackSaid : Prop := segBackRow.holds Try.pinned (OpenSpec.ofChange segBackSpec)

/-- ITS FALSE NEIGHBOUR: 'it returns false'. Refute it at one input. -/
def segBackWrong : ChangeSpec := { name := "segBack", fn := fun _ => fun
  | [d] => { results := [.lit (.bool false)], args := [d] }
  | _ => none }
def SegBackWrongFalsely : Prop := segBackRow.holds Try.pinned (OpenSpec.ofChange segBackWrong)

/-- 'stockadelaw05.SegTurned': WHATEVER THE INPUT: true; the input reads as it did. -/
def segTurnedSpec : ChangeSpec := { name := "segTurned", fn := fun _ => fun
  | [d1, d2, d3] => { results := [.lit (.bool true)], args := [d1, d2, d3] }
  | _ => none }
def segTurnedRow : OpenClaim := { program := "ytgifcmbknkjemaa", sum := "5c04402b3efe612b1cbbac87629dfd8342b0b587c2c7e6d635579400e4c83457", func := "stockade/stockadelaw05.SegTurned", spec := "segTurned", unfollowed := true, recurses := true, plainKeys := false, apart := false }
def SegTurnedSaid : Prop := segTurnedRow.holds Try.pinned (OpenSpec.ofChange segTurnedSpec)

/-- ITS FALSE NEIGHBOUR: 'it returns false'. Refute it at one input. -/
def segTurnedWrong : ChangeSpec := { name := "segTurned", fn := fun _ => fun
  | [d1, d2, d3] => { results := [.lit (.bool false)], args := [d1, d2, d3] }
  | _ => none }
def SegTurnedWrongFalsely : Prop := segTurnedRow.holds Try.pinned (OpenSpec.ofChange segTurnedWrong)

/-- 'stockadelaw05.SegShort': WHATEVER THE INPUT: true; the input reads as it did. -/
def segShortSpec : ChangeSpec := { name := "segShort", fn := fun _ => fun
  | [d1, d2] => { results := [.lit (.bool true)], args := [d1, d2] }
  | _ => none }
def segShortRow : OpenClaim := { program := "ytgifcmbknkjemaa", sum := "5c04402b3efe612b1cbbac87629dfd8342b0b587c2c7e6d635579400e4c83457", func := "stockade/stockadelaw05.SegShort", spec := "segShort", unfollowed := true, recurses := true, plainKeys := false, apart := false }
def SegShortSaid : Prop := segShortRow.holds Try.pinned (OpenSpec.ofChange segShortSpec)

/-- ITS FALSE NEIGHBOUR: 'it returns false'. Refute it at one input. -/
def segShortWrong : ChangeSpec := { name := "segShort", fn := fun _ => fun
  | [d1, d2] => { results := [.lit (.bool false)], args := [d1, d2] }
  | _ => none }
def SegShortWrongFalsely : Prop := segShortRow.holds Try.pinned (OpenSpec.ofChange segShortWrong)

/-- 'stockadelaw05.SegOwn': WHATEVER THE INPUT: true; the input reads as it did. -/
def segOwnSpec : ChangeSpec := { name := "segOwn", fn := fun _ => fun
  | [d] => { results := [.lit (.bool true)], args := [d] }
  | _ => none }
def segOwnRow : OpenClaim := { program := "ytgifcmbknkjemaa", sum := "5c04402b3efe612b1cbbac87629dfd8342b0b587c2c7e6d635579400e4c83457", func := "stockade/stockadelaw05.SegOwn", spec := "segOwn", unfollowed := true, recurses := true, plainKeys := false, apart := false }
def SegOwnSaid : Prop := segOwnRow.holds Try.pinned (OpenSpec.ofChange segOwnSpec)

/-- ITS FALSE NEIGHBOUR: 'it returns false'. Refute it at one input. -/
def segOwnWrong : ChangeSpec := { name := "segOwn", fn := fun _ => fun
  | [d] => { results := [.lit (.bool false)], args := [d] }
  | _ => none }
def SegOwnWrongFalsely : Prop := segOwnRow.holds Try.pinned (OpenSpec.ofChange segOwnWrong)

/- THE SECOND FORM. 'bulk': how many values and letters a reading holds, each counted each time it is reached (what is shared counts as often as it is met; a slice's spare places count too). A statement '..UptoSaid' is the law's where the arguments, and the package variables that the reading takes, are together of bulk at most 1048576: NARROWER than '..Said'. Prove '..Said' where nothing that the law and all that it calls make is longer than what came in: it says more and counts as full. Else prove '..UptoSaid'. A law counts once. -/
mutual
def uptoBulk {H : Type} : DataW H → Nat
  | .lit (.string bytes) => bytes.length + 1
  | .lit _ => 1
  | .nil => 1
  | .ptr d => uptoBulk d + 1
  | .slice elems spare => uptoBulkAll elems + uptoBulkAll spare + 1
  | .agg parts => uptoBulkAll parts + 1
  | .iface _ d => uptoBulk d + 1
  | .map entries => uptoBulkEntries entries + 1
  | .held _ => 1
def uptoBulkAll {H : Type} : List (DataW H) → Nat
  | [] => 0
  | d :: r => uptoBulk d + uptoBulkAll r
def uptoBulkEntries {H : Type} : List (Lit × DataW H) → Nat
  | [] => 0
  | x :: r => uptoBulkEntry x + uptoBulkEntries r
def uptoBulkEntry {H : Type} : Lit × DataW H → Nat
  | (.string bytes, d) => bytes.length + uptoBulk d + 1
  | (_, d) => uptoBulk d + 1
 end
def uptoSmall : (H : Type) → List (DataW H) → Bool := fun _ ds => decide (uptoBulkAll ds ≤ 1048576)
def OpenSpec.upto (s : _root_.Go.ChangeSpec) : _root_.Go.OpenSpec := { _root_.Go.OpenSpec.ofChange s with cond := some uptoSmall }

/-- 'stockadelaw01.WireSums', WHERE WHAT IT READS IS OF BULK AT MOST 1048576: true; the input reads as it did. -/
def wireSumsUptoRow : OpenClaim := { program := "ytgifcmbknkjemaa", sum := "5c04402b3efe612b1cbbac87629dfd8342b0b587c2c7e6d635579400e4c83457", func := "stockade/stockadelaw01.WireSums", spec := "wireSums", plainKeys := false, apart := false, narrowed := true }
def WireSumsUptoSaid : Prop := wireSumsUptoRow.holds Try.pinned (OpenSpec.upto wireSumsSpec)

/-- 'stockadelaw01.WireJoins', WHERE WHAT IT READS IS OF BULK AT MOST 1048576: true; the input reads as it did. -/
def wireJoinsUptoRow : OpenClaim := { program := "ytgifcmbknkjemaa", sum := "5c04402b3efe612b1cbbac87629dfd8342b0b587c2c7e6d635579400e4c83457", func := "stockade/stockadelaw01.WireJoins", spec := "wireJoins", plainKeys := false, apart := false, narrowed := true }
def WireJoinsUptoSaid : Prop := wireJoinsUptoRow.holds Try.pinned (OpenSpec.upto wireJoinsSpec)

/-- 'stockadelaw01.WireTurns', WHERE WHAT IT READS IS OF BULK AT MOST 1048576: true; the input reads as it did. -/
def wireTurnsUptoRow : OpenClaim := { program := "ytgifcmbknkjemaa", sum := "5c04402b3efe612b1cbbac87629dfd8342b0b587c2c7e6d635579400e4c83457", func := "stockade/stockadelaw01.WireTurns", spec := "wireTurns", plainKeys := false, apart := false, narrowed := true }
def WireTurnsUptoSaid : Prop := wireTurnsUptoRow.holds Try.pinned (OpenSpec.upto wireTurnsSpec)

/-- 'stockadelaw01.WireChecked', WHERE WHAT IT READS IS OF BULK AT MOST 1048576: true; the input reads as it did. -/
def wireCheckedUptoRow : OpenClaim := { program := "ytgifcmbknkjemaa", sum := "5c04402b3efe612b1cbbac87629dfd8342b0b587c2c7e6d635579400e4c83457", func := "stockade/stockadelaw01.WireChecked", spec := "wireChecked", plainKeys := false, apart := false, narrowed := true }
def WireCheckedUptoSaid : Prop := wireCheckedUptoRow.holds Try.pinned (OpenSpec.upto wireCheckedSpec)

/-- 'stockadelaw01.WireOwn', WHERE WHAT IT READS IS OF BULK AT MOST 1048576: true; the input reads as it did. -/
def wireOwnUptoRow : OpenClaim := { program := "ytgifcmbknkjemaa", sum := "5c04402b3efe612b1cbbac87629dfd8342b0b587c2c7e6d635579400e4c83457", func := "stockade/stockadelaw01.WireOwn", spec := "wireOwn", plainKeys := false, apart := false, narrowed := true }
def WireOwnUptoSaid : Prop := wireOwnUptoRow.holds Try.pinned (OpenSpec.upto wireOwnSpec)

/-- 'stockadelaw01.WirePuts', WHERE WHAT IT READS IS OF BULK AT MOST 1048576: true; the input reads as it did. -/
def wirePutsUptoRow : OpenClaim := { program := "ytgifcmbknkjemaa", sum := "5c04402b3efe612b1cbbac87629dfd8342b0b587c2c7e6d635579400e4c83457", func := "stockade/stockadelaw01.WirePuts", spec := "wirePuts", plainKeys := false, apart := false, narrowed := true }
def WirePutsUptoSaid : Prop := wirePutsUptoRow.holds Try.pinned (OpenSpec.upto wirePutsSpec)

/-- 'stockadelaw04.Ip6Walks', WHERE WHAT IT READS IS OF BULK AT MOST 1048576: true; the input reads as it did. -/
def ip6WalksUptoRow : OpenClaim := { program := "ytgifcmbknkjemaa", sum := "5c04402b3efe612b1cbbac87629dfd8342b0b587c2c7e6d635579400e4c83457", func := "stockade/stockadelaw04.Ip6Walks", spec := "ip6Walks", unfollowed := true, recurses := true, plainKeys := false, apart := false, narrowed := true }
def Ip6WalksUptoSaid : Prop := ip6WalksUptoRow.holds Try.pinned (OpenSpec.upto ip6WalksSpec)

/-- 'stockadelaw04.Ip6Reads', WHERE WHAT IT READS IS OF BULK AT MOST 1048576: true; the input reads as it did. -/
def ip6ReadsUptoRow : OpenClaim := { program := "ytgifcmbknkjemaa", sum := "5c04402b3efe612b1cbbac87629dfd8342b0b587c2c7e6d635579400e4c83457", func := "stockade/stockadelaw04.Ip6Reads", spec := "ip6Reads", unfollowed := true, recurses := true, plainKeys := false, apart := false, narrowed := true }
def Ip6ReadsUptoSaid : Prop := ip6ReadsUptoRow.holds Try.pinned (OpenSpec.upto ip6ReadsSpec)

/-- 'stockadetop.TopWires', WHERE WHAT IT READS IS OF BULK AT MOST 1048576: true; the input reads as it did. -/
def topWiresUptoRow : OpenClaim := { program := "ytgifcmbknkjemaa", sum := "5c04402b3efe612b1cbbac87629dfd8342b0b587c2c7e6d635579400e4c83457", func := "stockade/stockadetop.TopWires", spec := "topWires", inPlace := ["slices.overlaps[stockade/api.Ip]"], unfollowed := true, recurses := true, plainKeys := false, apart := false, narrowed := true }
def TopWiresUptoSaid : Prop := topWiresUptoRow.holds Try.pinned (OpenSpec.upto topWiresSpec)

/-- 'stockadelaw04.Ip6Behind', WHERE WHAT IT READS IS OF BULK AT MOST 1048576: true; the input reads as it did. -/
def ip6BehindUptoRow : OpenClaim := { program := "ytgifcmbknkjemaa", sum := "5c04402b3efe612b1cbbac87629dfd8342b0b587c2c7e6d635579400e4c83457", func := "stockade/stockadelaw04.Ip6Behind", spec := "ip6Behind", unfollowed := true, recurses := true, plainKeys := false, apart := false, narrowed := true }
def Ip6BehindUptoSaid : Prop := ip6BehindUptoRow.holds Try.pinned (OpenSpec.upto ip6BehindSpec)

/-- 'stockadelaw04.Ip6Same', WHERE WHAT IT READS IS OF BULK AT MOST 1048576: true; the input reads as it did. -/
def ip6SameUptoRow : OpenClaim := { program := "ytgifcmbknkjemaa", sum := "5c04402b3efe612b1cbbac87629dfd8342b0b587c2c7e6d635579400e4c83457", func := "stockade/stockadelaw04.Ip6Same", spec := "ip6Same", unfollowed := true, recurses := true, plainKeys := false, apart := false, narrowed := true }
def Ip6SameUptoSaid : Prop := ip6SameUptoRow.holds Try.pinned (OpenSpec.upto ip6SameSpec)

/-- 'stockadelaw04.Ip6Own', WHERE WHAT IT READS IS OF BULK AT MOST 1048576: true; the input reads as it did. -/
def ip6OwnUptoRow : OpenClaim := { program := "ytgifcmbknkjemaa", sum := "5c04402b3efe612b1cbbac87629dfd8342b0b587c2c7e6d635579400e4c83457", func := "stockade/stockadelaw04.Ip6Own", spec := "ip6Own", unfollowed := true, recurses := true, plainKeys := false, apart := false, narrowed := true }
def Ip6OwnUptoSaid : Prop := ip6OwnUptoRow.holds Try.pinned (OpenSpec.upto ip6OwnSpec)

/-- 'stockadelaw03.Ip4Reads', WHERE WHAT IT READS IS OF BULK AT MOST 1048576: true; the input reads as it did. -/
def ip4ReadsUptoRow : OpenClaim := { program := "ytgifcmbknkjemaa", sum := "5c04402b3efe612b1cbbac87629dfd8342b0b587c2c7e6d635579400e4c83457", func := "stockade/stockadelaw03.Ip4Reads", spec := "ip4Reads", unfollowed := true, recurses := true, plainKeys := false, apart := false, narrowed := true }
def Ip4ReadsUptoSaid : Prop := ip4ReadsUptoRow.holds Try.pinned (OpenSpec.upto ip4ReadsSpec)

/-- 'stockadelaw03.Ip4Writes', WHERE WHAT IT READS IS OF BULK AT MOST 1048576: true; the input reads as it did. -/
def ip4WritesUptoRow : OpenClaim := { program := "ytgifcmbknkjemaa", sum := "5c04402b3efe612b1cbbac87629dfd8342b0b587c2c7e6d635579400e4c83457", func := "stockade/stockadelaw03.Ip4Writes", spec := "ip4Writes", unfollowed := true, recurses := true, plainKeys := false, apart := false, narrowed := true }
def Ip4WritesUptoSaid : Prop := ip4WritesUptoRow.holds Try.pinned (OpenSpec.upto ip4WritesSpec)

/-- 'stockadelaw03.Ip4Back', WHERE WHAT IT READS IS OF BULK AT MOST 1048576: true; the input reads as it did. -/
def ip4BackUptoRow : OpenClaim := { program := "ytgifcmbknkjemaa", sum := "5c04402b3efe612b1cbbac87629dfd8342b0b587c2c7e6d635579400e4c83457", func := "stockade/stockadelaw03.Ip4Back", spec := "ip4Back", unfollowed := true, recurses := true, plainKeys := false, apart := false, narrowed := true }
def Ip4BackUptoSaid : Prop := ip4BackUptoRow.holds Try.pinned (OpenSpec.upto ip4BackSpec)

/-- 'stockadelaw03.Ip4Behind', WHERE WHAT IT READS IS OF BULK AT MOST 1048576: true; the input reads as it did. -/
def ip4BehindUptoRow : OpenClaim := { program := "ytgifcmbknkjemaa", sum := "5c04402b3efe612b1cbbac87629dfd8342b0b587c2c7e6d635579400e4c83457", func := "stockade/stockadelaw03.Ip4Behind", spec := "ip4Behind", unfollowed := true, recurses := true, plainKeys := false, apart := false, narrowed := true }
def Ip4BehindUptoSaid : Prop := ip4BehindUptoRow.holds Try.pinned (OpenSpec.upto ip4BehindSpec)

/-- 'stockadelaw03.Ip4Turned', WHERE WHAT IT READS IS OF BULK AT MOST 1048576: true; the input reads as it did. -/
def ip4TurnedUptoRow : OpenClaim := { program := "ytgifcmbknkjemaa", sum := "5c04402b3efe612b1cbbac87629dfd8342b0b587c2c7e6d635579400e4c83457", func := "stockade/stockadelaw03.Ip4Turned", spec := "ip4Turned", unfollowed := true, recurses := true, plainKeys := false, apart := false, narrowed := true }
def Ip4TurnedUptoSaid : Prop := ip4TurnedUptoRow.holds Try.pinned (OpenSpec.upto ip4TurnedSpec)

/-- 'stockadelaw03.Ip4Short', WHERE WHAT IT READS IS OF BULK AT MOST 1048576: true; the input reads as it did. -/
def ip4ShortUptoRow : OpenClaim := { program := "ytgifcmbknkjemaa", sum := "5c04402b3efe612b1cbbac87629dfd8342b0b587c2c7e6d635579400e4c83457", func := "stockade/stockadelaw03.Ip4Short", spec := "ip4Short", unfollowed := true, recurses := true, plainKeys := false, apart := false, narrowed := true }
def Ip4ShortUptoSaid : Prop := ip4ShortUptoRow.holds Try.pinned (OpenSpec.upto ip4ShortSpec)

/-- 'stockadelaw03.Ip4Own', WHERE WHAT IT READS IS OF BULK AT MOST 1048576: true; the input reads as it did. -/
def ip4OwnUptoRow : OpenClaim := { program := "ytgifcmbknkjemaa", sum := "5c04402b3efe612b1cbbac87629dfd8342b0b587c2c7e6d635579400e4c83457", func := "stockade/stockadelaw03.Ip4Own", spec := "ip4Own", unfollowed := true, recurses := true, plainKeys := false, apart := false, narrowed := true }
def Ip4OwnUptoSaid : Prop := ip4OwnUptoRow.holds Try.pinned (OpenSpec.upto ip4OwnSpec)

/-- 'stockadelaw04.Ip6Writes', WHERE WHAT IT READS IS OF BULK AT MOST 1048576: true; the input reads as it did. -/
def ip6WritesUptoRow : OpenClaim := { program := "ytgifcmbknkjemaa", sum := "5c04402b3efe612b1cbbac87629dfd8342b0b587c2c7e6d635579400e4c83457", func := "stockade/stockadelaw04.Ip6Writes", spec := "ip6Writes", unfollowed := true, recurses := true, plainKeys := false, apart := false, narrowed := true }
def Ip6WritesUptoSaid : Prop := ip6WritesUptoRow.holds Try.pinned (OpenSpec.upto ip6WritesSpec)

/-- 'stockadelaw06.FragApart', WHERE WHAT IT READS IS OF BULK AT MOST 1048576: true; the input reads as it did. -/
def fragApartUptoRow : OpenClaim := { program := "ytgifcmbknkjemaa", sum := "5c04402b3efe612b1cbbac87629dfd8342b0b587c2c7e6d635579400e4c83457", func := "stockade/stockadelaw06.FragApart", spec := "fragApart", inPlace := ["slices.overlaps[stockade/api.Ip]"], unfollowed := true, recurses := true, plainKeys := false, apart := false, narrowed := true }
def FragApartUptoSaid : Prop := fragApartUptoRow.holds Try.pinned (OpenSpec.upto fragApartSpec)

/-- 'stockadelaw06.FragOwn', WHERE WHAT IT READS IS OF BULK AT MOST 1048576: true; the input reads as it did. -/
def fragOwnUptoRow : OpenClaim := { program := "ytgifcmbknkjemaa", sum := "5c04402b3efe612b1cbbac87629dfd8342b0b587c2c7e6d635579400e4c83457", func := "stockade/stockadelaw06.FragOwn", spec := "fragOwn", inPlace := ["slices.overlaps[stockade/api.Ip]"], unfollowed := true, recurses := true, plainKeys := false, apart := false, narrowed := true }
def FragOwnUptoSaid : Prop := fragOwnUptoRow.holds Try.pinned (OpenSpec.upto fragOwnSpec)

/-- 'stockadelaw06.FragOrder', WHERE WHAT IT READS IS OF BULK AT MOST 1048576: true; the input reads as it did. -/
def fragOrderUptoRow : OpenClaim := { program := "ytgifcmbknkjemaa", sum := "5c04402b3efe612b1cbbac87629dfd8342b0b587c2c7e6d635579400e4c83457", func := "stockade/stockadelaw06.FragOrder", spec := "fragOrder", inPlace := ["slices.overlaps[stockade/api.Ip]"], unfollowed := true, recurses := true, plainKeys := false, apart := false, narrowed := true }
def FragOrderUptoSaid : Prop := fragOrderUptoRow.holds Try.pinned (OpenSpec.upto fragOrderSpec)

/-- 'stockadelaw06.FragBounds', WHERE WHAT IT READS IS OF BULK AT MOST 1048576: true; the input reads as it did. -/
def fragBoundsUptoRow : OpenClaim := { program := "ytgifcmbknkjemaa", sum := "5c04402b3efe612b1cbbac87629dfd8342b0b587c2c7e6d635579400e4c83457", func := "stockade/stockadelaw06.FragBounds", spec := "fragBounds", inPlace := ["slices.overlaps[stockade/api.Ip]"], unfollowed := true, recurses := true, plainKeys := false, apart := false, narrowed := true }
def FragBoundsUptoSaid : Prop := fragBoundsUptoRow.holds Try.pinned (OpenSpec.upto fragBoundsSpec)

/-- 'stockadelaw06.FragOver', WHERE WHAT IT READS IS OF BULK AT MOST 1048576: true; the input reads as it did. -/
def fragOverUptoRow : OpenClaim := { program := "ytgifcmbknkjemaa", sum := "5c04402b3efe612b1cbbac87629dfd8342b0b587c2c7e6d635579400e4c83457", func := "stockade/stockadelaw06.FragOver", spec := "fragOver", inPlace := ["slices.overlaps[stockade/api.Ip]"], unfollowed := true, recurses := true, plainKeys := false, apart := false, narrowed := true }
def FragOverUptoSaid : Prop := fragOverUptoRow.holds Try.pinned (OpenSpec.upto fragOverSpec)

/-- 'stockadelaw04.Ip6Back', WHERE WHAT IT READS IS OF BULK AT MOST 1048576: true; the input reads as it did. -/
def ip6BackUptoRow : OpenClaim := { program := "ytgifcmbknkjemaa", sum := "5c04402b3efe612b1cbbac87629dfd8342b0b587c2c7e6d635579400e4c83457", func := "stockade/stockadelaw04.Ip6Back", spec := "ip6Back", unfollowed := true, recurses := true, plainKeys := false, apart := false, narrowed := true }
def Ip6BackUptoSaid : Prop := ip6BackUptoRow.holds Try.pinned (OpenSpec.upto ip6BackSpec)

/-- 'stockadelaw06.FragPlays', WHERE WHAT IT READS IS OF BULK AT MOST 1048576: true; the input reads as it did. -/
def fragPlaysUptoRow : OpenClaim := { program := "ytgifcmbknkjemaa", sum := "5c04402b3efe612b1cbbac87629dfd8342b0b587c2c7e6d635579400e4c83457", func := "stockade/stockadelaw06.FragPlays", spec := "fragPlays", inPlace := ["slices.overlaps[stockade/api.Ip]"], unfollowed := true, recurses := true, plainKeys := false, apart := false, narrowed := true }
def FragPlaysUptoSaid : Prop := fragPlaysUptoRow.holds Try.pinned (OpenSpec.upto fragPlaysSpec)

/-- 'stockadelaw06.FragGone', WHERE WHAT IT READS IS OF BULK AT MOST 1048576: true; the input reads as it did. -/
def fragGoneUptoRow : OpenClaim := { program := "ytgifcmbknkjemaa", sum := "5c04402b3efe612b1cbbac87629dfd8342b0b587c2c7e6d635579400e4c83457", func := "stockade/stockadelaw06.FragGone", spec := "fragGone", inPlace := ["slices.overlaps[stockade/api.Ip]"], unfollowed := true, recurses := true, plainKeys := false, apart := false, narrowed := true }
def FragGoneUptoSaid : Prop := fragGoneUptoRow.holds Try.pinned (OpenSpec.upto fragGoneSpec)

/-- 'stockadelaw06.FragNobody', WHERE WHAT IT READS IS OF BULK AT MOST 1048576: true; the input reads as it did. -/
def fragNobodyUptoRow : OpenClaim := { program := "ytgifcmbknkjemaa", sum := "5c04402b3efe612b1cbbac87629dfd8342b0b587c2c7e6d635579400e4c83457", func := "stockade/stockadelaw06.FragNobody", spec := "fragNobody", inPlace := ["slices.overlaps[stockade/api.Ip]"], unfollowed := true, recurses := true, plainKeys := false, apart := false, narrowed := true }
def FragNobodyUptoSaid : Prop := fragNobodyUptoRow.holds Try.pinned (OpenSpec.upto fragNobodySpec)

/-- 'stockadelaw05.SegPseudos', WHERE WHAT IT READS IS OF BULK AT MOST 1048576: true; the input reads as it did. -/
def segPseudosUptoRow : OpenClaim := { program := "ytgifcmbknkjemaa", sum := "5c04402b3efe612b1cbbac87629dfd8342b0b587c2c7e6d635579400e4c83457", func := "stockade/stockadelaw05.SegPseudos", spec := "segPseudos", unfollowed := true, recurses := true, plainKeys := false, apart := false, narrowed := true }
def SegPseudosUptoSaid : Prop := segPseudosUptoRow.holds Try.pinned (OpenSpec.upto segPseudosSpec)

/-- 'stockadelaw05.SegReads', WHERE WHAT IT READS IS OF BULK AT MOST 1048576: true; the input reads as it did. -/
def segReadsUptoRow : OpenClaim := { program := "ytgifcmbknkjemaa", sum := "5c04402b3efe612b1cbbac87629dfd8342b0b587c2c7e6d635579400e4c83457", func := "stockade/stockadelaw05.SegReads", spec := "segReads", unfollowed := true, recurses := true, plainKeys := false, apart := false, narrowed := true }
def SegReadsUptoSaid : Prop := segReadsUptoRow.holds Try.pinned (OpenSpec.upto segReadsSpec)

/-- 'stockadelaw05.SegWrites', WHERE WHAT IT READS IS OF BULK AT MOST 1048576: true; the input reads as it did. -/
def segWritesUptoRow : OpenClaim := { program := "ytgifcmbknkjemaa", sum := "5c04402b3efe612b1cbbac87629dfd8342b0b587c2c7e6d635579400e4c83457", func := "stockade/stockadelaw05.SegWrites", spec := "segWrites", unfollowed := true, recurses := true, plainKeys := false, apart := false, narrowed := true }
def SegWritesUptoSaid : Prop := segWritesUptoRow.holds Try.pinned (OpenSpec.upto segWritesSpec)

/-- 'stockadelaw05.SegBack', WHERE WHAT IT READS IS OF BULK AT MOST 1048576: true; the input reads as it did. -/
def segBackUptoRow : OpenClaim := { program := "ytgifcmbknkjemaa", sum := "5c04402b3efe612b1cbbac87629dfd8342b0b587c2c7e6d635579400e4c83457", func := "stockade/stockadelaw05.SegBack", spec := "segBack", unfollowed := true, recurses := true, plainKeys := false, apart := false, narrowed := true }
def SegBackUptoSaid : Prop := segBackUptoRow.holds Try.pinned (OpenSpec.upto segBackSpec)

/-- 'stockadelaw05.SegTurned', WHERE WHAT IT READS IS OF BULK AT MOST 1048576: true; the input reads as it did. -/
def segTurnedUptoRow : OpenClaim := { program := "ytgifcmbknkjemaa", sum := "5c04402b3efe612b1cbbac87629dfd8342b0b587c2c7e6d635579400e4c83457", func := "stockade/stockadelaw05.SegTurned", spec := "segTurned", unfollowed := true, recurses := true, plainKeys := false, apart := false, narrowed := true }
def SegTurnedUptoSaid : Prop := segTurnedUptoRow.holds Try.pinned (OpenSpec.upto segTurnedSpec)

/-- 'stockadelaw05.SegShort', WHERE WHAT IT READS IS OF BULK AT MOST 1048576: true; the input reads as it did. -/
def segShortUptoRow : OpenClaim := { program := "ytgifcmbknkjemaa", sum := "5c04402b3efe612b1cbbac87629dfd8342b0b587c2c7e6d635579400e4c83457", func := "stockade/stockadelaw05.SegShort", spec := "segShort", unfollowed := true, recurses := true, plainKeys := false, apart := false, narrowed := true }
def SegShortUptoSaid : Prop := segShortUptoRow.holds Try.pinned (OpenSpec.upto segShortSpec)

/-- 'stockadelaw05.SegOwn', WHERE WHAT IT READS IS OF BULK AT MOST 1048576: true; the input reads as it did. -/
def segOwnUptoRow : OpenClaim := { program := "ytgifcmbknkjemaa", sum := "5c04402b3efe612b1cbbac87629dfd8342b0b587c2c7e6d635579400e4c83457", func := "stockade/stockadelaw05.SegOwn", spec := "segOwn", unfollowed := true, recurses := true, plainKeys := false, apart := false, narrowed := true }
def SegOwnUptoSaid : Prop := segOwnUptoRow.holds Try.pinned (OpenSpec.upto segOwnSpec)

end Rows
end Go.Proofs.Ytgifcmbknkjemaa
