/- The parameters of the laws, opened: each to its letters and its bounds. No condition. -/
import Derived.Test.YtgifcmbknkjemaaOpen
import Derived.Test.YtgifcmbknkjemaaC1
namespace Go.Proofs.Ytgifcmbknkjemaa.Own
open Go Go.RowKit Go.ChangeShapes Go.WideShapes Go.Deep Go.Proofs.YtgifcmbknkjemaaW.PrintWords
set_option linter.unusedVariables false
set_option linter.unusedSimpArgs false

theorem bytes_of_wf {l : List Int} (h : ∀ x ∈ l, (Lit.int .u8 x).wf = true) : Bytes l := fun c hc => by
  have := h c hc
  simp [Lit.wf, IntKind.min, IntKind.max, IntKind.signed, IntKind.bits] at this
  omega
theorem i64_of_wf {n : Int} (h : (Lit.int .i64 n).wf = true) : -9223372036854775808 ≤ n ∧ n ≤ 9223372036854775807 := by
  simp [Lit.wf, IntKind.min, IntKind.max, IntKind.signed, IntKind.bits] at h
  omega
theorem u64_of_wf {n : Int} (h : (Lit.int .u64 n).wf = true) : 0 ≤ n ∧ n ≤ 18446744073709551615 := by
  simp [Lit.wf, IntKind.min, IntKind.max, IntKind.signed, IntKind.bits] at h
  omega
theorem u32_of_wf {n : Int} (h : (Lit.int .u32 n).wf = true) : 0 ≤ n ∧ n ≤ 4294967295 := by
  simp [Lit.wf, IntKind.min, IntKind.max, IntKind.signed, IntKind.bits] at h
  omega
theorem u8_of_wf {n : Int} (h : (Lit.int .u8 n).wf = true) : 0 ≤ n ∧ n ≤ 255 := by
  simp [Lit.wf, IntKind.min, IntKind.max, IntKind.signed, IntKind.bits] at h
  omega
theorem opens27 : Opens 27 (Kd.slice 5 (Kd.int .u8)) (fun l => Bytes l ∧ l.length ≤ 140737488351232) :=
  (Opens.slice Try.underlying27 (Opens.int Try.underlying5) (by kernel_rfl) (B := 1) (by kernel_rfl)).imp fun l h => ⟨bytes_of_wf h.2, by have := h.1; omega⟩
theorem opens22 : Opens 22 (Kd.slice 27 (Kd.slice 5 (Kd.int .u8))) (fun l => okP l = true) :=
  (Opens.slice Try.underlying22 opens27 (by kernel_rfl) (B := 24) (by kernel_rfl)).imp fun l h => okP_iff.2 ⟨by have := h.1; omega, fun p hp => ⟨(h.2 p hp).1, by have := (h.2 p hp).2; omega⟩⟩
section
variable {H : Type} {enc : TypeId × Value → H} {W : World} {ts : List TypeId} {ds : List (DataW H)} {j : Nat} {v : Value} {dd : DataW H} {p : List MemPlace} {r : Reach} {b0 : Nat}
set_option maxRecDepth 100000 in
theorem par_slice {t e : TypeId} {α : Type} {d : Kd α} {good : List α → Prop} (hu : Try.prog.underlying t = some (.slice e)) (ho : Opens t (Kd.slice e d) good) (hval : Value.okWide Try.prog W r b0 t v)
    (hsz : (DataW.weightsEach Try.prog ts ds).all (· ≤ reachBytes) = true) (ht : ts[j]? = some t) (hd : ds[j]? = some dd) (h : DataW.Trod enc Try.prog W 0 (fun _ => true) true t v dd p) :
    ∃ (A : Option Addr) (c : Nat) (l : List α), v = .slice A l.length c ∧ l.length ≤ c ∧ d.C W A l.length l ∧ good l := by
  obtain ⟨a0, len0, cap0, rfl⟩ := okWide_slice hu hval
  obtain ⟨l, ⟨A, c, hcs, hl, hC⟩, hg⟩ := open_par ho hsz ht hd h
  simp [Value.cells] at hcs
  obtain ⟨rfl, rfl, rfl⟩ := hcs
  exact ⟨_, _, l, rfl, hl, hC, hg⟩
set_option maxRecDepth 100000 in
theorem par_struct {t : TypeId} {fs : Array Field} {α : Type} {d : Kd α} {good : α → Prop} (hu : Try.prog.underlying t = some (.struct fs)) (ho : Opens t d good) (hval : Value.okWide Try.prog W r b0 t v)
    (hsz : (DataW.weightsEach Try.prog ts ds).all (· ≤ reachBytes) = true) (ht : ts[j]? = some t) (hd : ds[j]? = some dd) (h : DataW.Trod enc Try.prog W 0 (fun _ => true) true t v dd p) :
    ∃ (cs : List Value) (a : α), v = .agg cs.toArray ∧ d.K W a cs ∧ good a := by
  obtain ⟨cs, rfl, hsz'⟩ := okWide_struct hu hval
  obtain ⟨a, hK, hg⟩ := open_par ho hsz ht hd h
  exact ⟨cs.toList, a, by simp, by simpa [Value.cells] using hK, hg⟩
end
end Go.Proofs.Ytgifcmbknkjemaa.Own
