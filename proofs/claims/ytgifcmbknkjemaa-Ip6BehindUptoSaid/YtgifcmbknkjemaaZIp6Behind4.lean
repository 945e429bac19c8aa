/- What the law Ip6Behind rests on, part 4: contracts of the functions that it calls, and plain lemmas. No condition. -/
import Derived.Test.YtgifcmbknkjemaaZIp6Behind3
import Derived.JoinedOf
section
namespace Go.Proofs.Ytgifcmbknkjemaa.Own
def sumW : String := "03221fe725209db331b1173d613d244f38a9a7a22ccfb733460aa24df66c2bee"
def restW : String := "at stockade/stockadelaw01.WireSums stockade/stockadelaw01.WireJoins stockade/stockadelaw01.WireTurns stockade/stockadelaw01.WireChecked stockade/stockadelaw01.WireOwn stockade/stockadelaw01.WirePuts stockade/stockadelaw04.Ip6Walks stockade/stockadelaw04.Ip6Reads stockade/stockadetop.TopWires stockade/stockadelaw04.Ip6Behind stockade/stockadelaw04.Ip6Same stockade/stockadelaw04.Ip6Own stockade/stockadelaw03.Ip4Reads stockade/stockadelaw03.Ip4Writes stockade/stockadelaw03.Ip4Back stockade/stockadelaw03.Ip4Behind stockade/stockadelaw03.Ip4Turned stockade/stockadelaw03.Ip4Short stockade/stockadelaw03.Ip4Own stockade/stockadelaw04.Ip6Writes stockade/stockadelaw06.FragApart stockade/stockadelaw06.FragOwn stockade/stockadelaw06.FragOrder stockade/stockadelaw06.FragBounds stockade/stockadelaw06.FragOver stockade/stockadelaw04.Ip6Back stockade/stockadelaw06.FragPlays stockade/stockadelaw06.FragGone stockade/stockadelaw06.FragNobody stockade/stockadelaw05.SegPseudos stockade/stockadelaw05.SegReads stockade/stockadelaw05.SegWrites stockade/stockadelaw05.SegBack stockade/stockadelaw05.SegTurned stockade/stockadelaw05.SegShort stockade/stockadelaw05.SegOwn"
theorem init_parts : Try.prog.initOrder = "harness" ++ (" " ++ (sumW ++ (" " ++ ("cut" ++ (" " ++ restW))))) := by kernel_rfl
theorem sp : (" " : String).toList = [Char.ofNat 32] := by kernel_rfl
theorem wordsSigns_word : ∀ (w r : List Char), (w.all fun c => !(c == Char.ofNat 32)) = true → wordsSigns (w ++ Char.ofNat 32 :: r) = w :: wordsSigns r
  | [], r, _ => by simp [wordsSigns]
  | c :: w, r, h => by
    simp only [List.all_cons, Bool.and_eq_true] at h
    have ih := wordsSigns_word w r h.2
    have hc : ¬ c = Char.ofNat 32 := by simpa using h.1
    rw [List.cons_append, wordsSigns]
    · rw [ih]
    · exact hc
theorem init_words : wordsSigns Try.prog.initOrder.toList = "harness".toList :: sumW.toList :: "cut".toList :: wordsSigns restW.toList := by
  rw [init_parts]
  simp only [String.toList_append, sp, List.singleton_append]
  rw [wordsSigns_word _ _ (by kernel_rfl), wordsSigns_word _ _ (by kernel_rfl), wordsSigns_word _ _ (by kernel_rfl)]
theorem init_behind : behindMainWord (wordsSigns Try.prog.initOrder.toList) = "cut".toList :: wordsSigns restW.toList := by
  rw [init_words]
  have e : (("harness".toList == "harness".toList || "harness".toList == "ownmain".toList) && isSumSigns sumW.toList) = true := by kernel_rfl
  show (if (("harness".toList == "harness".toList || "harness".toList == "ownmain".toList) && isSumSigns sumW.toList) = true then "cut".toList :: wordsSigns restW.toList else "harness".toList :: sumW.toList :: "cut".toList :: wordsSigns restW.toList) = _
  rw [if_pos e]
theorem w_gc : ("cut".toList == "gc".toList) = false := by kernel_rfl
theorem w_spec : ("cut".toList == "spec".toList) = false := by kernel_rfl
theorem w_cut : ("cut".toList == "cut".toList) = true := by kernel_rfl
theorem w_cut' : ((some "cut".toList : Option (List Char)) == some "cut".toList) = true := by kernel_rfl
theorem w_carried : ("cut".toList == "carried".toList) = false := by kernel_rfl
theorem w_carried' : ((some "cut".toList : Option (List Char)) == some "carried".toList) = false := by kernel_rfl
theorem w_no (s : String) : ([] : List String).contains s = false := rfl
theorem make_lem (R : List (List Char)) (P : Program) (h : behindMainWord (wordsSigns P.initOrder.toList) = "cut".toList :: R) : P.make = some .cut := by
  unfold Program.make
  rw [h]
  simp only [w_gc, w_spec, w_cut, Bool.or_false, Bool.true_or, Bool.false_eq_true, if_false, if_true]
theorem lifts_lem (R : List (List Char)) (P : Program) (h : behindMainWord (wordsSigns P.initOrder.toList) = "cut".toList :: R) : P.liftsFinal = false := by
  unfold Program.liftsFinal Program.headLifts
  rw [h]
  have e : stripLifts liftWords ("cut".toList :: R) = ([], "cut".toList :: R) := by kernel_rfl
  rw [e]
  simp only [List.head?_cons, w_carried', w_cut', if_true, w_no, Bool.false_and, Bool.or_false]
theorem may_lem (R : List (List Char)) (P : Program) (h : behindMainWord (wordsSigns P.initOrder.toList) = "cut".toList :: R) (h1 : P.laysLater = false) (h2 : P.bearsReflect = false) (h3 : P.doorFits [] = true) : P.mayEnter = true := by
  unfold Program.mayEnter
  rw [h]
  have e : stripLifts liftWords ("cut".toList :: R) = ([], "cut".toList :: R) := by kernel_rfl
  simp only [e, h1, h2, h3, w_gc, w_spec, w_carried, List.head?_cons, w_cut', w_no, Bool.false_and, Bool.or_false, Bool.false_or, Bool.not_false, Bool.and_true]
theorem make_cut : Try.prog.make = some .cut := make_lem _ _ init_behind
theorem lifts_final : Try.prog.liftsFinal = false := lifts_lem _ _ init_behind
theorem lays_later : Try.prog.laysLater = false := by kernel_rfl
theorem bears_reflect : Try.prog.bearsReflect = false := by kernel_rfl
theorem door_fits : Try.prog.doorFits [] = true := by kernel_rfl
theorem may_enter : Try.prog.mayEnter = true := may_lem _ _ init_behind lays_later bears_reflect door_fits
end Go.Proofs.Ytgifcmbknkjemaa.Own
end
