/- What the law Ip4Back rests on, part 13: contracts of the functions that it calls, and plain lemmas. No condition. -/
import Derived.Test.YtgifcmbknkjemaaZIp4Back12
import Derived.Laws.CopyOwn
import Derived.StillTailTactics
section
namespace Go.Proofs.Ytgifcmbknkjemaa.Own
open Go Go.RowKit Go.Proofs.YtgifcmbknkjemaaW.PrintWords Go.Proofs.YtgifcmbknkjemaaW.PrintLast Go.Proofs.YtgifcmbknkjemaaW.PrintMore
set_option linter.unusedVariables false
set_option linter.unusedSimpArgs false
def zeroC : Array Value := ipCells zeroV (.slice none 0 0) (.slice none 0 0)
theorem zeroC_one : zeroC.all (·.oneCell') = true := ipCells_one _ _ _ _ _ _ _
theorem fail_post {w W : World} {g : Nat} (e : Int) (hB : Below w.heap.size w W) : IpPost w (zeroV, e) (.returned (.tuple #[.agg zeroC, .int .i64 e])) W :=
  ⟨_, _, rfl, Kd.R_nil _ _ _ _ _, Kd.R_nil _ _ _ _ _, hB⟩
theorem R_setRow {α : Type} {d : Kd α} {e : Nat} {w : World} {base : Nat} {v : Value} {xs : List α} {g t : Nat} {cells cs : Array Value} (h : d.R e w base (fun _ => True) v xs) (hb : w.heap[g]? = some (.cells cells t (0, 0))) (ht : ∀ q, q ∈ e :: d.E → q ≠ t) : d.R e (w.setRow g cs) base (fun _ => True) v xs :=
  Kd.R_mono (Kd.R_step (Kd.R_types h hb ht) (fun k hk _ => setRow_other w g k cs hk.2)) (fun _ _ => trivial)
theorem pw_cell_at {w w1 : World} {a : Addr} {v : Value} (hb : Below w.heap.size w w1) (hc : w.cell? a = some v) : w1.cell? a = some v := pw_cell_below hb hc
section
variable {w w1 wc wd : World} {b pb : Nat} {d : List Int} {A : Option Addr} {n c p : Nat} {s : S6} {vE : Value} {cells : Array Value}
end
end Go.Proofs.Ytgifcmbknkjemaa.Own
end
section
namespace Go.Proofs.Ytgifcmbknkjemaa.Own
open Go Go.RowKit Go.Proofs.YtgifcmbknkjemaaW.PrintWords Go.Proofs.YtgifcmbknkjemaaW.PrintLast Go.Proofs.YtgifcmbknkjemaaW.PrintMore
set_option linter.unusedVariables false
set_option linter.unusedSimpArgs false
theorem right_is {a : Int × Int × Int} (ha : okA a) : GA.addr_Right.f a.1 a.2.1 a.2.2 = some (rightA a) := by
  obtain ⟨f, x, y⟩ := a
  have h1 := ha.2.1
  have h2 := ha.2.2
  simp only at h1 h2
  unfold GA.addr_Right.f rightA
  simp only
  by_cases h4 : f = 4
  · subst h4
    rw [if_pos rfl]
    by_cases hx : x = 0
    · subst hx
      rw [if_pos rfl]
      by_cases hy : y < 4294967296
      · have : y / 4294967296 = 0 := by omega
        simp [this, hy]
      · have : ¬ y / 4294967296 = 0 := by omega
        simp [this, hy]
    · rw [if_neg hx]
      simp [hx]
  · rw [if_neg h4]
    by_cases h6 : f = 6
    · subst h6; simp
    · simp [h4, h6]
theorem ab_hi {f x y : Int} {out R : List Int} (i : Nat) (h64 : 64 ≤ i) (hi : i ≤ 120) (ho : out.length ≤ 100) (h : Ev (fun k => GA.addr_Bytes.l0 k (out ++ [x / 2 ^ (i - 64) % 256]) ((i - 8 : Nat) : Int) f x y) R) :
    Ev (fun k => GA.addr_Bytes.l0 k out (i : Int) f x y) R := by
  refine Ev.step (fun k => ?_) h
  have e1 : wrap64 ((i : Int) - 64) = ((i - 64 : Nat) : Int) := by rw [w64 _ (by omega) (by omega)]; omega
  have e2 : wrap64 ((i : Int) - 8) = ((i - 8 : Nat) : Int) := by rw [w64 _ (by omega) (by omega)]; omega
  have e3 : shr .u64 x ((i - 64 : Nat) : Int) = x / 2 ^ (i - 64) := by unfold shr; rw [Int.toNat_natCast, Nat.min_eq_left (by simp [IntKind.bits]; omega)]
  rw [GA.addr_Bytes.l0, if_pos (by omega), if_pos (by omega), e1, if_pos (by omega), if_pos (by omega), e2, e3]
theorem ab_lo {f x y : Int} {out R : List Int} (i : Nat) (h64 : i < 64) (h8 : 8 ≤ i) (ho : out.length ≤ 100) (h : Ev (fun k => GA.addr_Bytes.l0 k (out ++ [y / 2 ^ i % 256]) ((i - 8 : Nat) : Int) f x y) R) :
    Ev (fun k => GA.addr_Bytes.l0 k out (i : Int) f x y) R := by
  refine Ev.step (fun k => ?_) h
  have e2 : wrap64 ((i : Int) - 8) = ((i - 8 : Nat) : Int) := by rw [w64 _ (by omega) (by omega)]; omega
  have e3 : shr .u64 y (i : Int) = y / 2 ^ i := by unfold shr; rw [Int.toNat_natCast, Nat.min_eq_left (by simp [IntKind.bits]; omega)]
  rw [GA.addr_Bytes.l0, if_pos (by omega), if_neg (by omega), if_pos (by omega), if_pos (by omega), e2, e3]
theorem ab_end {f x y : Int} {out : List Int} (ho : out.length ≤ 100) : Ev (fun k => GA.addr_Bytes.l0 k out 0 f x y) (out ++ [y % 256]) := by
  refine Ev.step (fun k => ?_) (Ev.step (f := fun _ => some (out ++ [y % 256])) (g := fun k => GA.addr_Bytes.l0 k (out ++ [y % 256]) (-8) f x y) (fun k => ?_) (Ev.now _))
  · have e2 : wrap64 ((0 : Int) - 8) = -8 := by rw [w64 _ (by omega) (by omega)]; omega
    have e3 : shr .u64 y 0 = y := by unfold shr; simp
    rw [GA.addr_Bytes.l0, if_pos (by omega), if_neg (by omega), if_pos (by omega), if_pos (by omega), e2, e3]
  · rw [GA.addr_Bytes.l0, if_neg (by omega)]
theorem addr_Bytes_some {a : Int × Int × Int} (ha : okA a) : ∃ k, GA.addr_Bytes.f k a.1 a.2.1 a.2.2 = some (bytesA a) := by
  have hr := right_is ha
  obtain ⟨f, x, y⟩ := a
  unfold GA.addr_Bytes.f bytesA
  rw [hr]
  simp only [Option.bind_some]
  cases hq : rightA (f, x, y) with
  | false => exact ⟨0, by simp⟩
  | true =>
    simp only [if_true]
    unfold GA.addr_bits.f
    by_cases h4 : f = 4
    · rw [if_pos h4, if_pos h4]
      simp only [Option.bind_some]
      rw [show wrap64 (32 - 8) = ((24 : Nat) : Int) by (rw [w64 _ (by omega) (by omega)]; rfl)]
      refine (Ev.rounds (g := fun k => GA.addr_Bytes.l0 k [] ((24 : Nat) : Int) f x y) ?_)
      refine ab_lo 24 (by omega) (by omega) (by simp) ?_
      refine ab_lo 16 (by omega) (by omega) (by simp) ?_
      refine ab_lo 8 (by omega) (by omega) (by simp) ?_
      exact ab_end (by simp)
    · rw [if_neg h4, if_neg h4]
      simp only [Option.bind_some]
      rw [show wrap64 (128 - 8) = ((120 : Nat) : Int) by (rw [w64 _ (by omega) (by omega)]; rfl)]
      refine (Ev.rounds (g := fun k => GA.addr_Bytes.l0 k [] ((120 : Nat) : Int) f x y) ?_)
      refine ab_hi 120 (by omega) (by omega) (by simp) ?_
      refine ab_hi 112 (by omega) (by omega) (by simp) ?_
      refine ab_hi 104 (by omega) (by omega) (by simp) ?_
      refine ab_hi 96 (by omega) (by omega) (by simp) ?_
      refine ab_hi 88 (by omega) (by omega) (by simp) ?_
      refine ab_hi 80 (by omega) (by omega) (by simp) ?_
      refine ab_hi 72 (by omega) (by omega) (by simp) ?_
      refine ab_hi 64 (by omega) (by omega) (by simp) ?_
      refine ab_lo 56 (by omega) (by omega) (by simp) ?_
      refine ab_lo 48 (by omega) (by omega) (by simp) ?_
      refine ab_lo 40 (by omega) (by omega) (by simp) ?_
      refine ab_lo 32 (by omega) (by omega) (by simp) ?_
      refine ab_lo 24 (by omega) (by omega) (by simp) ?_
      refine ab_lo 16 (by omega) (by omega) (by simp) ?_
      refine ab_lo 8 (by omega) (by omega) (by simp) ?_
      have he := ab_end (f := f) (x := x) (y := y) (out := [] ++ [x / 2 ^ (120 - 64) % 256] ++ [x / 2 ^ (112 - 64) % 256] ++ [x / 2 ^ (104 - 64) % 256] ++ [x / 2 ^ (96 - 64) % 256] ++ [x / 2 ^ (88 - 64) % 256] ++ [x / 2 ^ (80 - 64) % 256] ++ [x / 2 ^ (72 - 64) % 256] ++ [x / 2 ^ (64 - 64) % 256] ++ [y / 2 ^ 56 % 256] ++ [y / 2 ^ 48 % 256] ++ [y / 2 ^ 40 % 256] ++ [y / 2 ^ 32 % 256] ++ [y / 2 ^ 24 % 256] ++ [y / 2 ^ 16 % 256] ++ [y / 2 ^ 8 % 256]) (by simp)
      have hz : x / 2 ^ (64 - 64) % 256 = x % 256 := by simp
      rw [hz] at he ⊢
      exact he
theorem addrBytes_at (a : Int × Int × Int) (ha : okA a) (w : World) :
    Calls Try.prog 117 #[.agg #[.int .i64 a.1, .int .u64 a.2.1, .int .u64 a.2.2]] w fun e w' => ∃ v : Value, e = .returned v ∧ Kd.R (Kd.int .u8) 5 w' w.heap.size (fun _ => True) v (bytesA a) ∧ Below w.heap.size w w' :=
  have ⟨k, hk⟩ := addr_Bytes_some ha
  GA.addr_Bytes.calls k a.1 a.2.1 a.2.2 _ w hk
end Go.Proofs.Ytgifcmbknkjemaa.Own
end
