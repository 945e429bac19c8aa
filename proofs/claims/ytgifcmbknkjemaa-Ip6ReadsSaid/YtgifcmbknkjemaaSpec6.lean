/- What both walkers of extension headers compute: one plain function. -/
import Derived.Test.YtgifcmbknkjemaaWalk6
namespace Go.Proofs.Ytgifcmbknkjemaa.Own
open Go Go.RowKit Go.Proofs.YtgifcmbknkjemaaW.PrintWords Go.Proofs.YtgifcmbknkjemaaW.PrintLast
set_option linter.unusedVariables false

/-- A walk's state: the next header, the bytes that are left, the headers so far; hop: no header of 0 may come; frg: no header of 44 may come; fr: what a fragment that ends the walk says (its number, its place, whether more come). -/
structure S6 where
  next : Int
  rest : List Int
  exts : List Int
  hop : Bool
  frg : Bool
  fr : Option (Int × Int × Bool)
def isExt (n : Int) : Bool := n == 0 || n == 60 || n == 43 || n == 44
/-- What a header of a fragment does to a walk. -/
def frag6 (stops : Bool) (fr : Option (Int × Int × Bool)) (h : List Int) : Option (Int × Int × Bool) :=
  if stops = true ∧ (u16 h 2 / 8 ≠ 0 ∨ u16 h 2 % 2 = 1) then some (u32 h 4, u16 h 2 / 8 * 8, decide (u16 h 2 % 2 = 1)) else fr
/-- The look into one header h of the kind next: an error. -/
def look6 (s : S6) (h : List Int) : Int :=
  if s.next = 0 then (if s.hop = true then 7 else opt (h.drop 2))
  else if s.next = 60 then opt (h.drop 2)
  else if s.next = 43 then lookRoute h
  else if s.frg = true then 7 else 0
/-- The state behind one header of n bytes. -/
def next6 (stops : Bool) (s : S6) (n : Nat) : S6 :=
  ⟨rd s.rest 0, s.rest.drop n, s.exts ++ [s.next], true, s.frg || s.next == 44, if s.next = 44 then frag6 stops s.fr (s.rest.take n) else s.fr⟩
/-- The walk: an error, and the state at its end. -/
def run6 (stops : Bool) : Nat → S6 → Int × S6
  | 0, s => (17, s)
  | k + 1, s =>
    if s.fr.isSome = true ∨ isExt s.next = false then (0, s)
    else if 8 ≤ s.exts.length then (17, s)
    else if (size6 s.next s.rest).2 = false then (4, s)
    else if look6 s (s.rest.take (size6 s.next s.rest).1.toNat) ≠ 0 then (look6 s (s.rest.take (size6 s.next s.rest).1.toNat), s)
    else run6 stops k (next6 stops s (size6 s.next s.rest).1.toNat)
end Go.Proofs.Ytgifcmbknkjemaa.Own
