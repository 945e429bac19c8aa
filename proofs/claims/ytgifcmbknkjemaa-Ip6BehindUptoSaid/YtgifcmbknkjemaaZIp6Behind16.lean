/- What the law Ip6Behind rests on, part 16: contracts of the functions that it calls, and plain lemmas. No condition. -/
import Derived.Test.YtgifcmbknkjemaaZIp6Behind15
import Derived.Test.YtgifcmbknkjemaaRows
import Derived.JoinedCond
import Derived.Deep.CondSized
section
namespace Go.Proofs.Ytgifcmbknkjemaa.Own
open Go Go.RowKit Go.ChangeShapes Go.WideShapes Go.Deep
theorem bulk_one {H : Type} (d : DataW H) : 1 ≤ Rows.uptoBulk d := by
  cases d with
  | lit l => cases l <;> simp [Rows.uptoBulk]
  | nil => simp [Rows.uptoBulk]
  | ptr d => simp [Rows.uptoBulk]
  | slice elems spare => simp [Rows.uptoBulk]
  | agg parts => simp [Rows.uptoBulk]
  | iface t d => simp [Rows.uptoBulk]
  | map entries => simp [Rows.uptoBulk]
  | held h => simp [Rows.uptoBulk]
theorem bulk_length {H : Type} (l : List (DataW H)) : l.length ≤ Rows.uptoBulkAll l := by
  induction l with
  | nil => simp [Rows.uptoBulkAll]
  | cons x r ih => have := bulk_one x; simp only [Rows.uptoBulkAll, List.length_cons]; omega
theorem par_bulk {H : Type} {enc : TypeId × Value → H} {W : World} {t e : TypeId} {A : Option Addr} {n c : Nat} {dd : DataW H} {p : List MemPlace} (hu : Try.prog.underlying t = some (.slice e)) (h : DataW.Trod enc Try.prog W 0 (fun _ => true) true t (.slice A n c) dd p) : n ≤ Rows.uptoBulk dd := by
  obtain ⟨fuel, hf⟩ := h
  rcases open_slice hu hf with ⟨h1, h2⟩ | ⟨a, len, cap, m, k, D, Pl, h1, hb, hl, hm, hmm, h2, hi⟩
  · simp [Value.cells] at h1
    omega
  · simp [Value.cells] at h1
    rw [Prod.mk.injEq] at h2
    obtain ⟨h2, _⟩ := h2
    obtain ⟨_, rfl, _⟩ := h1
    rw [h2]
    have := bulk_length ((List.range n).map D)
    rw [List.length_map, List.length_range] at this
    simp only [Rows.uptoBulk]
    omega
theorem bulk_two {H : Type} {a b : DataW H} {n m : Nat} (hk : Rows.uptoSmall H [a, b] = true) (ha : n ≤ Rows.uptoBulk a) (hb : m ≤ Rows.uptoBulk b) : n + m ≤ 1048576 := by
  have h : Rows.uptoBulkAll [a, b] ≤ 1048576 := of_decide_eq_true hk
  simp only [Rows.uptoBulkAll] at h
  omega
end Go.Proofs.Ytgifcmbknkjemaa.Own
end
