/- What the law Ip4Behind rests on, part 9: contracts of the functions that it calls, and plain lemmas. No condition. -/
import Derived.Test.YtgifcmbknkjemaaZIp4Behind8
import Derived.Deep.RegionLaw
import Derived.BigRegion
section
namespace Go.Proofs.Ytgifcmbknkjemaa.Own
open Go Go.RowKit Go.Proofs.YtgifcmbknkjemaaW.PrintWords Go.Proofs.YtgifcmbknkjemaaW.PrintLast Go.Proofs.YtgifcmbknkjemaaW.PrintMore
set_option linter.unusedVariables false
set_option linter.unusedSimpArgs false
theorem lt_of_heap {w : World} {i : Nat} {o : Obj} (h : w.heap[i]? = some o) : i < w.heap.size := by
  rcases Nat.lt_or_ge i w.heap.size with h1 | h1
  · exact h1
  · rw [Array.getElem?_eq_none h1] at h; cases h
theorem C_takeN {k : IntKind} {w : World} {A : Option Addr} {n : Nat} {l : List Int} (h : (Kd.int k).C w A n l) (m : Nat) (hm : m ≤ n) : (Kd.int k).C w A m (l.take m) := by
  have hn : l.length = n := h.1
  subst hn
  have h1 := Kd.C_take h hm
  rwa [List.length_take, Nat.min_eq_left hm] at h1
theorem C_block {k : IntKind} {w : World} {ad : Addr} {n : Nat} {l : List Int} (h : (Kd.int k).C w (some ad) n l) (hn : 0 < n) : ad.block < w.heap.size := by
  obtain ⟨ad', e, hc⟩ := Kd.at_int h 0 (by omega) (by omega)
  obtain rfl := Option.some.inj e
  have := World.block_lt_of_cell? w _ hc
  unfold Addr.add at this
  split at this <;> exact this
section
variable {w0 W : World} {b r x : Nat} {stops : Bool} {s : S6} {ad : Addr} {n c nn : Nat} {vE : Value}
end
end Go.Proofs.Ytgifcmbknkjemaa.Own
end
section
namespace Go.Proofs.Ytgifcmbknkjemaa.Own
open Go Go.RowKit Go.Proofs.YtgifcmbknkjemaaW.PrintWords Go.Proofs.YtgifcmbknkjemaaW.PrintLast Go.Proofs.YtgifcmbknkjemaaW.PrintMore
set_option linter.unusedVariables false
set_option linter.unusedSimpArgs false
section
variable {w0 wr w1 : World} {b : Nat} {stops : Bool} {d : List Int} {A : Option Addr} {n c p : Nat} {s : S6} {vE : Value}
end
section
variable {w0 wr w1 : World} {b : Nat} {stops : Bool} {d : List Int} {A : Option Addr} {n c p : Nat} {s : S6} {vE : Value}
end
theorem C_midN {k : IntKind} {w : World} {A : Option Addr} {n c : Nat} {l : List Int} (h : (Kd.int k).C w A n l) (hc : n ≤ c) (lo m : Nat) (hm : lo + m ≤ n) : (Kd.int k).C w (if c = lo then A else A.map (·.add (lo * 1))) m ((l.drop lo).take m) := by
  have hn : l.length = n := h.1
  subst hn
  have h1 := Kd.C_mid (lo := lo) (hi := lo + m) (c := c) h (by omega) (by omega) hc
  rw [List.drop_take, show lo + m - lo = m by omega, List.length_take, List.length_drop, Nat.min_eq_left (by omega)] at h1
  exact h1
theorem add_at (ad : Addr) (k : Nat) (hk : 0 < k) : ad.add k = ⟨ad.block, ad.off + k, none⟩ := by unfold Addr.add; rw [if_neg (by omega)]
end Go.Proofs.Ytgifcmbknkjemaa.Own
end
section
namespace Go.Proofs.Ytgifcmbknkjemaa.Own
open Go Go.RowKit Go.Proofs.YtgifcmbknkjemaaW.PrintWords Go.Proofs.YtgifcmbknkjemaaW.PrintLast Go.Proofs.YtgifcmbknkjemaaW.PrintMore
set_option linter.unusedVariables false
set_option linter.unusedSimpArgs false
theorem Clone_at {A : Option Addr} {c n : Nat} {l : List Int} {w : World} (hr : (Kd.int .u8).C w A n l) (hc : n ≤ c) (hn : n < 140737488355328) :
    Calls Try.prog 98 #[.slice A n c] w fun e w' => ∃ v0_ : Value, e = .returned (v0_) ∧ Kd.R (Kd.int .u8) 5 w' w.heap.size (fun _ => True) v0_ l ∧ Below w.heap.size w w' := by
  have h1 : l.length = n := hr.1
  subst h1
  exact slices_Clone_byte_byte.calls A c l l w hr hc (by unfold slices_Clone_byte_byte.f; rw [if_pos hn])
end Go.Proofs.Ytgifcmbknkjemaa.Own
end
