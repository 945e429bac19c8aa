/- The law WirePuts: numbers are put behind any bytes and read from there, as the reference does: the call answers true. Conditions: bytes are bytes, numbers of their kinds, the length within reach. -/
import Derived.Test.YtgifcmbknkjemaaC2
import Derived.Test.YtgifcmbknkjemaaL1x1
namespace Go.Proofs.Ytgifcmbknkjemaa.Own
open Go Go.RowKit Go.Proofs.YtgifcmbknkjemaaW.PrintWords Go.Proofs.YtgifcmbknkjemaaW.PrintLast
set_option linter.unusedVariables false
set_option linter.unusedSimpArgs false

theorem WirePuts_pure (l : List Int) (n u : Int) (hb : Bytes l) (hl : l.length ≤ 140737488351232) (hn' : -9223372036854775808 ≤ n ∧ n ≤ 9223372036854775807) (hu' : 0 ≤ u ∧ u ≤ 4294967295) : ∃ k, L1.stockadelaw01_WirePuts.f k l n u = some true := by
  have h1 : okB (put16 l n) = true := okB_iff.2 (bytes_put16 hb n)
  have h2 : okB (put32 l u) = true := okB_iff.2 (bytes_put32 hb u)
  have l1 : (put16 l n).length = l.length + 2 := by simp [put16]
  have l2 : (put32 l u).length = l.length + 4 := by simp [put32]
  have s1 : okS (put16 l n) = true := okS_iff.2 ⟨bytes_put16 hb n, by omega⟩
  have s2 : okS (put32 l u) = true := okS_iff.2 ⟨bytes_put32 hb u, by omega⟩
  refine ⟨1, ?_⟩
  unfold L1.stockadelaw01_WirePuts.f Own.wire_Put16.f Own.wire_Put32.f Own.stockaderef01_Put16.f Own.stockaderef01_Put32.f Own.stockaderef01_Same.f
  rw [if_pos (by omega), if_pos (by omega)]
  simp only [Option.bind_some]
  rw [if_pos ⟨h1, h1⟩, if_pos ⟨h2, h2⟩]
  simp only [Option.bind_some, decide_true, if_true, Bool.not_true]
  unfold L1.stockadelaw01_WirePuts.j0
  simp only [Bool.false_eq_true, if_false]
  unfold Own.wire_U16.f Own.wire_U32.f
  rw [if_pos s1, if_pos s2, if_pos (by omega), if_pos (by omega)]
  simp only [Option.bind_some]
  rw [u16_put16, u32_put32 _ _ hu'.1 (by omega), and65535]
  simp [Own.stockadelaw01_alive.f]
theorem WirePuts_walk (w : World) (A0 : Option Addr) (c0 : Nat) (l0 : List Int) (hr0 : Kd.C (Kd.int .u8) w A0 l0.length l0) (hc0 : l0.length ≤ c0) (hg0 : Bytes l0 ∧ l0.length ≤ 140737488351232) (a1 : Int) (hg1 : -9223372036854775808 ≤ a1 ∧ a1 ≤ 9223372036854775807) (a2 : Int) (hg2 : 0 ≤ a2 ∧ a2 ≤ 4294967295) :
    Calls Try.prog 8 #[.slice A0 l0.length c0, .int .i64 a1, .int .u32 a2] w fun e w' => e = .returned (.bool true) ∧ Below w.heap.size w w' := by
  obtain ⟨k, hk⟩ := WirePuts_pure l0 a1 a2 hg0.1 hg0.2 hg1 hg2
  exact L1.stockadelaw01_WirePuts.calls k A0 c0 l0 a1 a2 true w hr0 hc0 hk
end Go.Proofs.Ytgifcmbknkjemaa.Own
