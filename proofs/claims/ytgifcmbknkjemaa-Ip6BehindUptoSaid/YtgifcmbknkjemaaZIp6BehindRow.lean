/- Ip6Behind holds of every input: the row, out of the walk. No condition. -/
import Derived.Test.YtgifcmbknkjemaaRows
import Derived.Test.YtgifcmbknkjemaaZIp6Behind16
import Derived.WalkKit
namespace Go.Proofs.Ytgifcmbknkjemaa.ip6Behind
open Go.ChangeShapes Go.WideShapes Go.ChangeAt Go.RowKit Go.Proofs.Ytgifcmbknkjemaa.Own
open Go.ChangeMaps (open_string shut_string)
set_option linter.unusedVariables false
set_option maxRecDepth 100000 in
theorem lifted (os : Os) (started : os.Started) (H : Type) (enc : TypeId × Value → H) (F : Stop.Interp) :
    ReturnsInHanded {} Try.checked os 12 .any ((Rows.OpenSpec.upto Rows.ip6BehindSpec).pre6 enc Try.prog Try.f12 Rows.ip6BehindUptoRow.domain false) (((Rows.OpenSpec.upto Rows.ip6BehindSpec).at F).post enc Try.prog Try.f12 false true false false) := by
  refine returnsInHanded_of_cond_sized (C := Try.checked) (s := Rows.OpenSpec.upto Rows.ip6BehindSpec) (k := Rows.uptoSmall) rfl own started (by kernel_rfl) Try.func12
    (OpenSpec.witness (enc := enc) (C := Try.checked) (s := Rows.OpenSpec.upto Rows.ip6BehindSpec) (k := Rows.uptoSmall) rfl false ⟨#[], #[.slice none 0 0, .slice none 0 0], []⟩ 8 (by kernel_rfl) (by kernel_rfl) (by kernel_rfl) (x := ([.nil, .nil], [], [])) (by kernel_rfl) rfl (by kernel_rfl)) ?_
  intro W base args ds gs before hval0 hW hcnd hkb hsz0 _
  have hsz : (DataW.weightsEach Try.prog (Try.f12.params.toList ++ Rows.ip6BehindSpec.plain.varTypes Try.prog) (ds ++ gs)).all (· ≤ reachBytes) = true := hsz0
  have hval : ∀ (j : Nat) t v, Try.f12.params[j]? = some t → args[j]? = some v → Value.okWide Try.prog W .any base t v := hval0
  have hW' := hW
  obtain ⟨p, q, hA0, hV, rfl, hfz, hnd⟩ := hW
  have hA : DataW.TrodAll enc Try.prog W 0 (fun _ => true) true Try.f12.params.toList args.toList ds p := hA0
  rw [Try.params12] at hA hval hsz
  obtain ⟨v0, vs0, d0, ds0, p0, q0, hargs, rfl, rfl, h0, r0⟩ := trodAll_cons hA
  obtain ⟨v1, vs1, d1, ds1, p1, q1, rfl, rfl, rfl, h1, r1⟩ := trodAll_cons r0
  obtain ⟨rfl, rfl, rfl⟩ := trodAll_nil r1
  obtain rfl : args = #[v0, v1] := by cases args; simp_all
  obtain ⟨rfl, rfl⟩ := trodVars_none hV
  have k0 := h0
  have lt0 := par_lt k0
  obtain ⟨A0, c0, l0, rfl, hc0, hr0, hg0⟩ := par_slice Try.underlying27 opens27 (hval 0 27 v0 rfl rfl) hsz (j := 0) rfl rfl h0
  have k1 := h1
  have lt1 := par_lt k1
  obtain ⟨A1, c1, l1, rfl, hc1, hr1, hg1⟩ := par_slice Try.underlying27 opens27 (hval 1 27 v1 rfl rfl) hsz (j := 1) rfl rfl h1
  have hk : l0.length + l1.length ≤ 1048576 := bulk_two (by simpa using hkb) (par_bulk Try.underlying27 k0) (par_bulk Try.underlying27 k1)
  clear hA0 hval0 hsz0 hsz hkb
  refine (Ip6Behind_walk W A0 c0 l0 hr0 hc0 hg0 A1 c1 l1 hr1 hc1 hg1 hk).mono fun e W' ⟨he, bel⟩ => ?_
  subst he
  exact ⟨_, rfl, _, _, _, [], _, [], hW', trodAll_mk1 (shut_bool Try.underlying4 _), (trodAll_cons_mk (Below.trod laidOut (by kernel_rfl) (of_decide_eq_true (by kernel_rfl)) k0 bel lt0) (trodAll_cons_mk (Below.trod laidOut (by kernel_rfl) (of_decide_eq_true (by kernel_rfl)) k1 bel lt1) trodAll_mk0)), rfl, bel.frame _, fun h => by cases h⟩
set_option maxRecDepth 100000 in
theorem closed : joinedFacts Try.prog 12 Try.f12 (Rows.OpenSpec.upto Rows.ip6BehindSpec).bare Rows.ip6BehindUptoRow = true := by
  unfold joinedFacts
  rw [may_enter, lifts_final, make_cut]
  kernel_rfl
theorem over : Rows.ip6BehindUptoRow.holds Try.pinned (Rows.OpenSpec.upto Rows.ip6BehindSpec) :=
  OpenClaim.holds_of_cond 12 Try.f12 rfl rfl rfl rfl rfl rfl rfl ⟨rfl, rfl, rfl, rfl, rfl⟩ rfl rfl rfl rfl rfl (by kernel_rfl) Try.func12 closed
    (of_decide_eq_true (by kernel_rfl)) (by unfold Func.isWrapper; first | (rw [if_pos (by decide +kernel)]; kernel_rfl) | (rw [if_neg (by decide +kernel)]; exact ⟨rfl, rfl⟩))
    (fun os started H enc _ F => lifted os started H enc F)
end Go.Proofs.Ytgifcmbknkjemaa.ip6Behind
namespace Go.Proofs.Ytgifcmbknkjemaa
/-- The row, under a short name, for the claim. -/
theorem ip6Behind_holds : Rows.Ip6BehindUptoSaid := ip6Behind.over
#print axioms ip6Behind_holds
end Go.Proofs.Ytgifcmbknkjemaa
