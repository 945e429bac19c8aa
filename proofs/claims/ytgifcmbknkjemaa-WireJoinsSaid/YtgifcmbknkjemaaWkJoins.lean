/- The law WireJoins: the sum of two parts is that of their sums, and parts may be cut anywhere: the call answers true. Conditions: bytes are bytes, numbers of their kinds, lengths within reach. -/
import Derived.Test.YtgifcmbknkjemaaM
import Derived.Test.YtgifcmbknkjemaaL2x1
namespace Go.Proofs.Ytgifcmbknkjemaa.Own
open Go Go.RowKit Go.Proofs.YtgifcmbknkjemaaW.PrintWords Go.Proofs.YtgifcmbknkjemaaW.PrintLast Go.Proofs.YtgifcmbknkjemaaW.PrintMore
set_option linter.unusedVariables false
set_option linter.unusedSimpArgs false

theorem flp_len (b : Bool) (xs : List Int) : flp b xs = (b != decide (xs.length % 2 = 1)) := by
  induction xs generalizing b with
  | nil => simp [flp]
  | cons c r ih =>
    rw [flp, ih]
    by_cases h : r.length % 2 = 1
    · have h2 : ¬ (r.length + 1) % 2 = 1 := by omega
      cases b <;> simp [h, h2]
    · have h2 : (r.length + 1) % 2 = 1 := by omega
      cases b <;> simp [h, h2]
theorem flp_even (b : Bool) {xs : List Int} (h : xs.length % 2 = 0) : flp b xs = b := by
  rw [flp_len]
  have : ¬ xs.length % 2 = 1 := by omega
  simp [this]
theorem sum_words {s t : Int} (hs : 0 ≤ s ∧ s ≤ 65535) (ht : 0 ≤ t ∧ t ≤ 65535) : sumOf [[s / 256 % 256, s % 256], [t / 256 % 256, t % 256]] = fold (s + t) := by
  unfold sumOf
  simp only [List.flatten_cons, List.flatten_nil, List.cons_append, List.nil_append, wsum]
  congr 1
  omega
theorem okP_of {l : List (List Int)} (h : ∀ p ∈ l, Bytes p ∧ p.length ≤ 140737488351232) (hl : l.length ≤ 140737488351232) : okP l = true := okP_iff.2 ⟨hl, h⟩
theorem bytes_take {l : List Int} (h : Bytes l) (n : Nat) : Bytes (l.take n) := fun c hc => h c (List.mem_of_mem_take hc)
theorem bytes_drop {l : List Int} (h : Bytes l) (n : Nat) : Bytes (l.drop n) := fun c hc => h c (List.mem_of_mem_drop hc)
theorem bytes_word (s : Int) : Bytes [s / 256 % 256, s % 256] := fun c hc => by
  simp at hc
  omega
theorem wsum_nn {b : Bool} {l : List Int} (h : Bytes l) : 0 ≤ wsum b l := (wsum_bounds b l h).1
theorem WireJoins_pure (l0 l1 : List Int) (a2 : Int) (hg0 : Bytes l0 ∧ l0.length ≤ 140737488351232) (hg1 : Bytes l1 ∧ l1.length ≤ 140737488351232) : ∃ k, L2.stockadelaw01_WireJoins.f k l0 l1 a2 = some true := by
  obtain ⟨m, hm⟩ : ∃ m : Nat, m = l0.length / 2 * 2 := ⟨_, rfl⟩
  have hev : Go.bits .andNot .i64 (l0.length : Int) 1 = (m : Int) := by rw [andNot_even l0.length (by omega), hm]
  have ha : (l0.take m).length = m := by rw [List.length_take]; omega
  have hba := bytes_take hg0.1 m
  obtain ⟨S, hS⟩ : ∃ S, S = sumOf [l0.take m, l1] := ⟨_, rfl⟩
  obtain ⟨s, hs⟩ : ∃ s, s = sumOf [l0.take m] := ⟨_, rfl⟩
  obtain ⟨t, ht⟩ : ∃ t, t = sumOf [l1] := ⟨_, rfl⟩
  have hsb : 0 ≤ s ∧ s ≤ 65535 := hs ▸ sumOf_bounds _
  have htb : 0 ≤ t ∧ t ≤ 65535 := ht ▸ sumOf_bounds _
  have e1 : sumOf [[s / 256 % 256, s % 256], [t / 256 % 256, t % 256]] = S := by
    rw [sum_words hsb htb, hs, ht, hS]
    unfold sumOf
    simp only [List.flatten_cons, List.flatten_nil, List.append_nil]
    rw [fold_fold_add _ _ (wsum_nn hba) (fold_bounds _).1, Int.add_comm, fold_fold_add _ _ (wsum_nn hg1.1) (wsum_nn hba), wsum_append, flp_even _ (by omega), Int.add_comm]
  have e2 : ∀ k : Nat, sumOf [l0.take m, l1.take k, l1.drop k] = S := fun k => by
    rw [hS]
    unfold sumOf
    simp only [List.flatten_cons, List.flatten_nil, List.append_nil, List.take_append_drop]
  have ok1 : okP [l0.take m, l1] = true := okP_of (by
    intro p hp
    simp at hp
    rcases hp with rfl | rfl
    · exact ⟨hba, by omega⟩
    · exact hg1) (by simp)
  have ok2 : okP [l0.take m] = true := okP_of (by
    intro p hp
    simp at hp
    subst hp
    exact ⟨hba, by omega⟩) (by simp)
  have ok3 : okP [l1] = true := okP_of (by
    intro p hp
    simp at hp
    subst hp
    exact hg1) (by simp)
  have ok4 : okP [[s / 256 % 256, s % 256], [t / 256 % 256, t % 256]] = true := okP_of (by
    intro p hp
    simp at hp
    rcases hp with rfl | rfl
    · exact ⟨bytes_word _, by simp⟩
    · exact ⟨bytes_word _, by simp⟩) (by simp)
  have ok5 : ∀ k : Nat, okP [l0.take m, l1.take k, l1.drop k] = true := fun k => okP_of (by
    intro p hp
    simp at hp
    rcases hp with rfl | rfl | rfl
    · exact ⟨hba, by omega⟩
    · exact ⟨bytes_take hg1.1 _, by rw [List.length_take]; omega⟩
    · exact ⟨bytes_drop hg1.1 _, by rw [List.length_drop]; omega⟩) (by simp)
  have hmn : 0 ≤ mn (mx a2 0) (l1.length : Int) ∧ mn (mx a2 0) (l1.length : Int) ≤ l1.length := by
    unfold mn mx
    split <;> split <;> omega
  refine ⟨1, ?_⟩
  unfold L2.stockadelaw01_WireJoins.f OwnB.wire_Sum.f Own.wire_Sum.f
  rw [hev, if_pos (by omega), if_pos (by omega), Int.toNat_natCast]
  simp only [Option.bind_some]
  rw [if_pos ok1, if_pos ok2, if_pos ok3, ← hS, ← hs, ← ht]
  simp only [Option.bind_some]
  rw [if_neg (by omega), if_neg (by omega), if_neg (by omega), decide_eq_false (by omega)]
  simp only [L2.stockadelaw01_WireJoins.j0, OwnB.wire_Sum.f, Own.wire_Sum.f]
  rw [if_neg (by simp), if_pos ok4, e1]
  simp only [Option.bind_some, if_true]
  rw [if_pos hmn.1, if_pos hmn.2, if_pos (ok5 _), e2]
  simp [OwnB.stockadelaw01_alive.f, Own.stockadelaw01_alive.f]
theorem WireJoins_walk (w : World) (A0 : Option Addr) (c0 : Nat) (l0 : List Int) (hr0 : Kd.C (Kd.int .u8) w A0 l0.length l0) (hc0 : l0.length ≤ c0) (hg0 : Bytes l0 ∧ l0.length ≤ 140737488351232) (A1 : Option Addr) (c1 : Nat) (l1 : List Int) (hr1 : Kd.C (Kd.int .u8) w A1 l1.length l1) (hc1 : l1.length ≤ c1) (hg1 : Bytes l1 ∧ l1.length ≤ 140737488351232) (a2 : Int) (hg2 : -9223372036854775808 ≤ a2 ∧ a2 ≤ 9223372036854775807) :
    Calls Try.prog 4 #[.slice A0 l0.length c0, .slice A1 l1.length c1, .int .i64 a2] w fun e w' => e = .returned (.bool true) ∧ Below w.heap.size w w' := by
  obtain ⟨k, hk⟩ := WireJoins_pure l0 l1 a2 hg0 hg1
  exact L2.stockadelaw01_WireJoins.calls k _ A0 c0 l0 _ A1 c1 l1 a2 true w (V_of_C hr0 hc0) (V_of_C hr1 hc1) hk
end Go.Proofs.Ytgifcmbknkjemaa.Own
