/- The map of looks of layer 4: made, filled, asked. -/
import Derived.Test.YtgifcmbknkjemaaOpt
import Derived.MapKept
namespace Go.Proofs.Ytgifcmbknkjemaa.Own
open Go Go.RowKit Go.Proofs.YtgifcmbknkjemaaW.PrintWords Go.Proofs.YtgifcmbknkjemaaW.PrintLast Go.Proofs.YtgifcmbknkjemaaW.PrintMore
set_option linter.unusedVariables false
set_option linter.unusedSimpArgs false
theorem find_ints (es : List MapEntry) (x : Int) (ks : List (Int × Value × Nat)) (he : es = ks.map fun k => ⟨.int .i64 k.1, k.2.1, k.2.2⟩) (i : Nat) :
    Instr.findNow (.int .i64) (.int .i64 x) es i = some ((ks.findIdx? fun k => k.1 == x).map fun j => (i + j, (ks[j]?.map fun k => k.2.1).getD .nilIface)) := by
  subst he
  induction ks generalizing i with
  | nil => rfl
  | cons k ks ih =>
    simp only [List.map_cons, Instr.findNow, Instr.sameNow, if_true]
    by_cases h : k.1 = x
    · simp [h, List.findIdx?_cons]
    · have h2 : (x == k.1) = false := by simp; omega
      have h3 : (k.1 == x) = false := by simpa using h
      rw [h2]
      simp only [ih, List.findIdx?_cons, h3]
      cases hh : ks.findIdx? (fun k => k.1 == x) with
      | none => simp
      | some j => simp; omega
theorem run_lookup_ints {P : Program} (W : World) (mt kt et : TypeId) (h : P.underlying mt = some (.map kt et)) (hk : P.underlying kt = some (.int .i64)) (i0 : TypeInfo) (hi : P.info? et = some i0) (z : Value) (hz : i0.zero = some z) (r clock : Nat) (ks : List (Int × Value × Nat)) (hb : W.heap[r]? = some (.map (ks.map fun k => (⟨.int .i64 k.1, k.2.1, k.2.2⟩ : MapEntry)).toArray clock)) (x : Int) :
    (Instr.lookup mt (.map (some r)) (.int .i64 x) true).run P W = .ok (.tuple #[match ks.findIdx? fun k => k.1 == x with | some j => (ks[j]?.map fun k => k.2.1).getD .nilIface | none => z, .bool (ks.findIdx? fun k => k.1 == x).isSome]) W := by
  have hf := find_ints _ x ks rfl 0
  simp only [Nat.zero_add] at hf
  have hg := Go.MapKept.run_getObj_map (P := P) hb
  have hc := fun e => Go.MapKept.run_checkKey (P := P) (w := W) (k := .int .i64 x) hk (by trivial) e 9999
  have hfk := Go.MapKept.run_findKey (P := P) (w := W) hk hf
  have hzv : (zeroValue et).run P W = .ok z W := by simp [zeroValue, typeInfo, hi, hz]
  unfold Instr.lookup
  simp only [Sem.run_bind, run_underlying h, Result.andThen_ok, Sem.run_pure, hg, hc, List.toList_toArray, hfk]
  cases hh : ks.findIdx? (fun k => k.1 == x) with
  | none => simp [hzv]
  | some j => simp
/-- The entries of a map with whole keys. -/
def ints (ks : List (Int × Value × Nat)) : Array MapEntry := (ks.map fun k => (⟨.int .i64 k.1, k.2.1, k.2.2⟩ : MapEntry)).toArray
theorem run_insert_ints {P : Program} (W : World) (mt kt et : TypeId) (h : P.underlying mt = some (.map kt et)) (hk : P.underlying kt = some (.int .i64)) (r clock : Nat) (ks : List (Int × Value × Nat)) (hb : W.heap[r]? = some (.map (ints ks) clock)) (x : Int) (v : Value) (hx : (ks.findIdx? fun k => k.1 == x) = none) :
    (Instr.mapUpdate mt (.map (some r)) (.int .i64 x) v).run P W = .ok () { W with heap := W.heap.setIfInBounds r (.map (ints (ks ++ [(x, v, clock)])) (clock + 1)) } := by
  have hf := find_ints _ x ks rfl 0
  rw [hx] at hf
  have hg := Go.MapKept.run_getObj_map (P := P) hb
  have hc := fun e => Go.MapKept.run_checkKey (P := P) (w := W) (k := .int .i64 x) hk (by trivial) e 9999
  have hfk := Go.MapKept.run_findKey (P := P) (w := W) hk hf
  have hs := Go.MapKept.run_setObj_map (P := P) (.map (ints (ks ++ [(x, v, clock)])) (clock + 1)) hb
  have hp : (ints ks).push ⟨.int .i64 x, v, clock⟩ = ints (ks ++ [(x, v, clock)]) := by simp [ints]
  have hl : (ints ks).toList = ks.map fun k => (⟨.int .i64 k.1, k.2.1, k.2.2⟩ : MapEntry) := by simp [ints]
  unfold Instr.mapUpdate
  simp only [Sem.run_bind, run_underlying h, Result.andThen_ok, Sem.run_pure, hg, hc, hl, hfk, Option.map_none, hp, hs]
theorem insert_next {P : Program} {W w0 : World} {base : Nat} (mt kt et : TypeId) (h : P.underlying mt = some (.map kt et)) (hk : P.underlying kt = some (.int .i64)) (r clock : Nat) (ks : List (Int × Value × Nat)) (hb : W.heap[r]? = some (.map (ints ks) clock)) (x : Int) (v : Value) (hx : (ks.findIdx? fun k => k.1 == x) = none) (hB : Below base w0 W) (hr : base ≤ r) :
    ∃ W2, (Instr.mapUpdate mt (.map (some r)) (.int .i64 x) v).run P W = .ok () W2 ∧ W2.heap[r]? = some (.map (ints (ks ++ [(x, v, clock)])) (clock + 1)) ∧ (∀ i, i ≠ r → W2.heap[i]? = W.heap[i]?) ∧ Below base w0 W2 := by
  have hlt : r < W.heap.size := by
    rcases Nat.lt_or_ge r W.heap.size with h | h
    · exact h
    · rw [Array.getElem?_eq_none h] at hb; cases hb
  refine ⟨_, run_insert_ints W mt kt et h hk r clock ks hb x v hx, ?_, ?_, ?_⟩
  · show (W.heap.setIfInBounds r _)[r]? = _
    rw [Array.getElem?_setIfInBounds_self_of_lt hlt]
  · intro i hi
    show (W.heap.setIfInBounds r _)[i]? = _
    rw [Array.getElem?_setIfInBounds_ne (by omega)]
  · refine ⟨hB.os, hB.tape, hB.output, ?_, ?_⟩
    · have := hB.size
      show _ ≤ (W.heap.setIfInBounds r _).size
      rw [Array.size_setIfInBounds]
      exact this
    · intro i hi
      show (W.heap.setIfInBounds r _)[i]? = _
      rw [Array.getElem?_setIfInBounds_ne (by omega)]
      exact hB.block i hi
/-- The looks of a walk whose object is the block b, the box of its pointer the block x. -/
def looksOf (b x : Nat) : List (Int × Value × Nat) := [(0, .func (.func 174) #[] #[.pointer (some ⟨x, 0, none⟩)], 0), (60, .func (.func 176) #[] #[], 1), (43, .func (.func 177) #[] #[], 2), (44, .func (.func 178) #[.pointer (some ⟨b, 0, none⟩)] #[], 3)]
end Go.Proofs.Ytgifcmbknkjemaa.Own
