/- The bits of a fragment's place. -/
import Derived.Test.YtgifcmbknkjemaaM
namespace Go.Proofs.Ytgifcmbknkjemaa.Own
open Go Go.RowKit
set_option linter.unusedSimpArgs false
theorem and_eights (x : Nat) (hx : x < 2 ^ 64) : x &&& 18446744073709551608 = x / 8 * 8 := by
  apply Nat.eq_of_testBit_eq
  intro i
  rw [Nat.testBit_and, show x / 8 * 8 = 2 ^ 3 * (x / 2 ^ 3) by omega, Nat.testBit_two_pow_mul, show 18446744073709551608 = 2 ^ 3 * (2 ^ 61 - 1) by decide, Nat.testBit_two_pow_mul, Nat.testBit_two_pow_sub_one]
  by_cases h : 3 ≤ i
  · simp only [h, decide_true, Bool.true_and, ge_iff_le]
    rw [Nat.testBit_div_two_pow, show i - 3 + 3 = i by omega]
    by_cases h2 : i - 3 < 61
    · simp [h2]
    · have : x.testBit i = false := Nat.testBit_lt_two_pow (Nat.lt_of_lt_of_le hx (Nat.pow_le_pow_right (by omega) (by omega)))
      simp [this]
  · simp [h]
theorem andNot7 (n : Nat) (h : n < 65536) : Go.bits .andNot .i64 (n : Int) 7 = ((n / 8 * 8 : Nat) : Int) := by
  show IntKind.i64.wrap ((BitVec.ofInt 64 (n : Int) &&& ~~~BitVec.ofInt 64 7).toNat : Int) = _
  have h2 : (BitVec.ofInt 64 7).toNat = 7 := by decide
  rw [BitVec.toNat_and, BitVec.toNat_not, ofInt_u64 n (by omega), h2, show 2 ^ 64 - 1 - 7 = 18446744073709551608 by decide, and_eights n (by omega)]
  rw [wraps_i64 _ (by omega) (by omega)]
theorem andNot6_zero (n : Nat) (h : n < 65536) : (Go.bits .andNot .i64 (n : Int) 6 = 0) ↔ n / 8 = 0 ∧ n % 2 = 0 := by
  have hs : Go.bits .andNot .i64 (n : Int) 6 = IntKind.i64.wrap ((n &&& 18446744073709551609 : Nat) : Int) := by
    show IntKind.i64.wrap ((BitVec.ofInt 64 (n : Int) &&& ~~~BitVec.ofInt 64 6).toNat : Int) = _
    have h2 : (BitVec.ofInt 64 6).toNat = 6 := by decide
    rw [BitVec.toNat_and, BitVec.toNat_not, ofInt_u64 n (by omega), h2]
  have hle : n &&& 18446744073709551609 ≤ n := Nat.and_le_left
  rw [hs, wraps_i64 _ (by omega) (by omega)]
  constructor
  · intro h0
    have h1 : n &&& 18446744073709551609 = 0 := by omega
    have h3 : n &&& 18446744073709551608 = 0 := by
      rw [show (18446744073709551608 : Nat) = 18446744073709551609 &&& 18446744073709551608 by decide, ← Nat.and_assoc, h1, Nat.zero_and]
    have h4 : n &&& 1 = 0 := by
      rw [show (1 : Nat) = 18446744073709551609 &&& 1 by decide, ← Nat.and_assoc, h1, Nat.zero_and]
    rw [and_eights n (by omega)] at h3
    rw [Nat.and_one_is_mod] at h4
    omega
  · rintro ⟨h1, h2⟩
    have : n = 0 ∨ n = 2 ∨ n = 4 ∨ n = 6 := by omega
    rcases this with rfl | rfl | rfl | rfl <;> decide
theorem and1 (n : Nat) (h : n < 65536) : Go.bits .and .i64 (n : Int) 1 = ((n % 2 : Nat) : Int) := by
  have := bits_mask .i64 63 (by decide) wraps_i64 1 (by decide) (n : Int) (by omega) (by omega)
  rw [show ((n % 2 : Nat) : Int) = (n : Int) % 2 by omega]
  exact this
end Go.Proofs.Ytgifcmbknkjemaa.Own
