/- Small facts on bytes and numbers. No condition. -/
import Derived.Test.YtgifcmbknkjemaaPars
namespace Go.Proofs.Ytgifcmbknkjemaa.Own
open Go Go.RowKit Go.Proofs.YtgifcmbknkjemaaW.PrintWords Go.Proofs.YtgifcmbknkjemaaW.PrintLast
set_option linter.unusedVariables false
set_option linter.unusedSimpArgs false

theorem bytes_append {xs ys : List Int} (hx : Bytes xs) (hy : Bytes ys) : Bytes (xs ++ ys) := fun c hc => by
  rcases List.mem_append.1 hc with h | h
  · exact hx c h
  · exact hy c h
theorem bytes_put16 {l : List Int} (h : Bytes l) (n : Int) : Bytes (put16 l n) := bytes_append h (fun c hc => by
  simp at hc
  omega)
theorem bytes_put32 {l : List Int} (h : Bytes l) (n : Int) : Bytes (put32 l n) := bytes_append h (fun c hc => by
  simp at hc
  omega)
theorem rd_append_right {xs ys : List Int} {i : Int} {j : Nat} (h : i = xs.length + j) : rd (xs ++ ys) i = rd ys j := by
  unfold rd
  rw [List.getD_eq_getElem?_getD, List.getD_eq_getElem?_getD, List.getElem?_append_right (by omega)]
  congr 2
  omega
theorem u16_put16 (l : List Int) (n : Int) : u16 (put16 l n) l.length = n % 65536 := by
  unfold u16 put16
  rw [rd_append_right (j := 0) (by omega), rd_append_right (j := 1) (by omega)]
  simp [rd]
  omega
theorem u32_put32 (l : List Int) (n : Int) (h0 : 0 ≤ n) (h1 : n < 4294967296) : u32 (put32 l n) l.length = n := by
  unfold u32 u16 put32
  rw [rd_append_right (j := 0) (by omega), rd_append_right (j := 1) (by omega), rd_append_right (j := 2) (by omega), rd_append_right (j := 3) (by omega)]
  simp [rd]
  omega
theorem and_mask (x : Int) (i : Nat) (hi : i ≤ 32) : Go.bits .and .i64 x (2 ^ i - 1) = x % 2 ^ i := by
  have hp : (2 : Nat) ^ i ≤ 2 ^ 32 := Nat.pow_le_pow_right (by decide) hi
  have hpos : 0 < (2 : Nat) ^ i := Nat.two_pow_pos i
  have hc : ((2 : Int) ^ i - 1) = ((2 ^ i - 1 : Nat) : Int) := by
    rw [Int.natCast_sub hpos]; simp
  have hm : (2 ^ i - 1 : Nat) % 2 ^ 64 = 2 ^ i - 1 := Nat.mod_eq_of_lt (by omega)
  have hmod : ((x % 18446744073709551616).toNat % 2 ^ i : Nat) = (x % 2 ^ i).toNat := by
    have h1 : ((2 ^ i : Nat) : Int) = 2 ^ i := by simp
    have h2 : (2 ^ i : Int) ∣ 18446744073709551616 := by
      have : (2 : Int) ^ 64 = 2 ^ i * 2 ^ (64 - i) := by rw [← Int.pow_add]; congr 1; omega
      exact ⟨2 ^ (64 - i), by rw [← this]; rfl⟩
    have h3 : 0 ≤ x % 18446744073709551616 := Int.emod_nonneg _ (by decide)
    have h4 : (x % 18446744073709551616) % 2 ^ i = x % 2 ^ i := Int.emod_emod_of_dvd x h2
    have h5 : (((x % 18446744073709551616).toNat % 2 ^ i : Nat) : Int) = x % 2 ^ i := by
      rw [Int.natCast_emod, Int.toNat_of_nonneg h3, h1, h4]
    omega
  rw [hc]
  simp only [Go.bits, BitVec.toNat_and, BitVec.ofInt_natCast, BitVec.toNat_ofNat, BitVec.toNat_ofInt]
  show IntKind.i64.wrap ((((x % ((2 ^ 64 : Nat) : Int)).toNat &&& ((2 ^ i - 1) % 2 ^ 64 : Nat) : Nat)) : Int) = _
  rw [hm, Nat.and_two_pow_sub_one_eq_mod]
  have h6 : ((2 ^ 64 : Nat) : Int) = 18446744073709551616 := by decide
  rw [h6, hmod]
  have h7 : 0 ≤ x % 2 ^ i := Int.emod_nonneg _ (by omega)
  have h8 : x % 2 ^ i < 2 ^ i := Int.emod_lt_of_pos _ (by omega)
  have h9 : ((2 ^ i : Nat) : Int) = 2 ^ i := by simp
  rw [Int.toNat_of_nonneg h7, IntKind.wrap_i64]
  omega
theorem and65535 (x : Int) : Go.bits .and .i64 x 65535 = x % 65536 := and_mask x 16 (by decide)
end Go.Proofs.Ytgifcmbknkjemaa.Own
