/- What the law Ip4Writes rests on, part 14: contracts of the functions that it calls, and plain lemmas. No condition. -/
import Derived.Test.YtgifcmbknkjemaaZIp4Writes13
import Derived.Laws.CopyOwn
import Derived.StillTailTactics
section
namespace Go.Proofs.Ytgifcmbknkjemaa.Own
open Go Go.RowKit Go.Proofs.YtgifcmbknkjemaaW.PrintWords Go.Proofs.YtgifcmbknkjemaaW.PrintLast Go.Proofs.YtgifcmbknkjemaaW.PrintMore
set_option linter.unusedVariables false
set_option linter.unusedSimpArgs false
def zeroC : Array Value := ipCells zeroV (.slice none 0 0) (.slice none 0 0)
theorem zeroC_one : zeroC.all (·.oneCell') = true := ipCells_one _ _ _ _ _ _ _
theorem fail_post {w W : World} {g : Nat} (e : Int) (hB : Below w.heap.size w W) : IpPost w (zeroV, e) (.returned (.tuple #[.agg zeroC, .int .i64 e])) W :=
  ⟨_, _, rfl, Kd.R_nil _ _ _ _ _, Kd.R_nil _ _ _ _ _, hB⟩
theorem R_setRow {α : Type} {d : Kd α} {e : Nat} {w : World} {base : Nat} {v : Value} {xs : List α} {g t : Nat} {cells cs : Array Value} (h : d.R e w base (fun _ => True) v xs) (hb : w.heap[g]? = some (.cells cells t (0, 0))) (ht : ∀ q, q ∈ e :: d.E → q ≠ t) : d.R e (w.setRow g cs) base (fun _ => True) v xs :=
  Kd.R_mono (Kd.R_step (Kd.R_types h hb ht) (fun k hk _ => setRow_other w g k cs hk.2)) (fun _ _ => trivial)
theorem pw_cell_at {w w1 : World} {a : Addr} {v : Value} (hb : Below w.heap.size w w1) (hc : w.cell? a = some v) : w1.cell? a = some v := pw_cell_below hb hc
section
variable {w w1 wc wd : World} {b pb : Nat} {d : List Int} {A : Option Addr} {n c p : Nat} {s : S6} {vE : Value} {cells : Array Value}
end
end Go.Proofs.Ytgifcmbknkjemaa.Own
end
section
namespace Go.Proofs.Ytgifcmbknkjemaa.Own
open Go Go.RowKit Go.Proofs.YtgifcmbknkjemaaW.PrintWords Go.Proofs.YtgifcmbknkjemaaW.PrintLast Go.Proofs.YtgifcmbknkjemaaW.PrintMore
set_option linter.unusedVariables false
set_option linter.unusedSimpArgs false
theorem right_is {a : Int × Int × Int} (ha : okA a) : GA.addr_Right.f a.1 a.2.1 a.2.2 = some (rightA a) := by
  obtain ⟨f, x, y⟩ := a
  have h1 := ha.2.1
  have h2 := ha.2.2
  simp only at h1 h2
  unfold GA.addr_Right.f rightA
  simp only
  by_cases h4 : f = 4
  · subst h4
    rw [if_pos rfl]
    by_cases hx : x = 0
    · subst hx
      rw [if_pos rfl]
      by_cases hy : y < 4294967296
      · have : y / 4294967296 = 0 := by omega
        simp [this, hy]
      · have : ¬ y / 4294967296 = 0 := by omega
        simp [this, hy]
    · rw [if_neg hx]
      simp [hx]
  · rw [if_neg h4]
    by_cases h6 : f = 6
    · subst h6; simp
    · simp [h4, h6]
theorem rright_is {a : Int × Int × Int} (ha : okA a) : GA.stockaderef02_Right.f a.1 a.2.1 a.2.2 = some (rightA a) := by
  obtain ⟨f, x, y⟩ := a
  unfold GA.stockaderef02_Right.f rightA
  simp only
  by_cases h6 : f = 6
  · subst h6; simp
  · rw [if_neg h6]
    by_cases h4 : f = 4
    · subst h4
      rw [if_pos rfl]
      by_cases hx : x = 0
      · subst hx
        simp
      · simp [hx]
    · simp [h4, h6]
theorem ab_hi {f x y : Int} {out R : List Int} (i : Nat) (h64 : 64 ≤ i) (hi : i ≤ 120) (ho : out.length ≤ 100) (h : Ev (fun k => GA.addr_Bytes.l0 k (out ++ [x / 2 ^ (i - 64) % 256]) ((i - 8 : Nat) : Int) f x y) R) :
    Ev (fun k => GA.addr_Bytes.l0 k out (i : Int) f x y) R := by
  refine Ev.step (fun k => ?_) h
  have e1 : wrap64 ((i : Int) - 64) = ((i - 64 : Nat) : Int) := by rw [w64 _ (by omega) (by omega)]; omega
  have e2 : wrap64 ((i : Int) - 8) = ((i - 8 : Nat) : Int) := by rw [w64 _ (by omega) (by omega)]; omega
  have e3 : shr .u64 x ((i - 64 : Nat) : Int) = x / 2 ^ (i - 64) := by unfold shr; rw [Int.toNat_natCast, Nat.min_eq_left (by simp [IntKind.bits]; omega)]
  rw [GA.addr_Bytes.l0, if_pos (by omega), if_pos (by omega), e1, if_pos (by omega), if_pos (by omega), e2, e3]
theorem ab_lo {f x y : Int} {out R : List Int} (i : Nat) (h64 : i < 64) (h8 : 8 ≤ i) (ho : out.length ≤ 100) (h : Ev (fun k => GA.addr_Bytes.l0 k (out ++ [y / 2 ^ i % 256]) ((i - 8 : Nat) : Int) f x y) R) :
    Ev (fun k => GA.addr_Bytes.l0 k out (i : Int) f x y) R := by
  refine Ev.step (fun k => ?_) h
  have e2 : wrap64 ((i : Int) - 8) = ((i - 8 : Nat) : Int) := by rw [w64 _ (by omega) (by omega)]; omega
  have e3 : shr .u64 y (i : Int) = y / 2 ^ i := by unfold shr; rw [Int.toNat_natCast, Nat.min_eq_left (by simp [IntKind.bits]; omega)]
  rw [GA.addr_Bytes.l0, if_pos (by omega), if_neg (by omega), if_pos (by omega), if_pos (by omega), e2, e3]
theorem ab_end {f x y : Int} {out : List Int} (ho : out.length ≤ 100) : Ev (fun k => GA.addr_Bytes.l0 k out 0 f x y) (out ++ [y % 256]) := by
  refine Ev.step (fun k => ?_) (Ev.step (f := fun _ => some (out ++ [y % 256])) (g := fun k => GA.addr_Bytes.l0 k (out ++ [y % 256]) (-8) f x y) (fun k => ?_) (Ev.now _))
  · have e2 : wrap64 ((0 : Int) - 8) = -8 := by rw [w64 _ (by omega) (by omega)]; omega
    have e3 : shr .u64 y 0 = y := by unfold shr; simp
    rw [GA.addr_Bytes.l0, if_pos (by omega), if_neg (by omega), if_pos (by omega), if_pos (by omega), e2, e3]
  · rw [GA.addr_Bytes.l0, if_neg (by omega)]
theorem addr_Bytes_some {a : Int × Int × Int} (ha : okA a) : ∃ k, GA.addr_Bytes.f k a.1 a.2.1 a.2.2 = some (bytesA a) := by
  have hr := right_is ha
  obtain ⟨f, x, y⟩ := a
  unfold GA.addr_Bytes.f bytesA
  rw [hr]
  simp only [Option.bind_some]
  cases hq : rightA (f, x, y) with
  | false => exact ⟨0, by simp⟩
  | true =>
    simp only [if_true]
    unfold GA.addr_bits.f
    by_cases h4 : f = 4
    · rw [if_pos h4, if_pos h4]
      simp only [Option.bind_some]
      rw [show wrap64 (32 - 8) = ((24 : Nat) : Int) by (rw [w64 _ (by omega) (by omega)]; rfl)]
      refine (Ev.rounds (g := fun k => GA.addr_Bytes.l0 k [] ((24 : Nat) : Int) f x y) ?_)
      refine ab_lo 24 (by omega) (by omega) (by simp) ?_
      refine ab_lo 16 (by omega) (by omega) (by simp) ?_
      refine ab_lo 8 (by omega) (by omega) (by simp) ?_
      exact ab_end (by simp)
    · rw [if_neg h4, if_neg h4]
      simp only [Option.bind_some]
      rw [show wrap64 (128 - 8) = ((120 : Nat) : Int) by (rw [w64 _ (by omega) (by omega)]; rfl)]
      refine (Ev.rounds (g := fun k => GA.addr_Bytes.l0 k [] ((120 : Nat) : Int) f x y) ?_)
      refine ab_hi 120 (by omega) (by omega) (by simp) ?_
      refine ab_hi 112 (by omega) (by omega) (by simp) ?_
      refine ab_hi 104 (by omega) (by omega) (by simp) ?_
      refine ab_hi 96 (by omega) (by omega) (by simp) ?_
      refine ab_hi 88 (by omega) (by omega) (by simp) ?_
      refine ab_hi 80 (by omega) (by omega) (by simp) ?_
      refine ab_hi 72 (by omega) (by omega) (by simp) ?_
      refine ab_hi 64 (by omega) (by omega) (by simp) ?_
      refine ab_lo 56 (by omega) (by omega) (by simp) ?_
      refine ab_lo 48 (by omega) (by omega) (by simp) ?_
      refine ab_lo 40 (by omega) (by omega) (by simp) ?_
      refine ab_lo 32 (by omega) (by omega) (by simp) ?_
      refine ab_lo 24 (by omega) (by omega) (by simp) ?_
      refine ab_lo 16 (by omega) (by omega) (by simp) ?_
      refine ab_lo 8 (by omega) (by omega) (by simp) ?_
      have he := ab_end (f := f) (x := x) (y := y) (out := [] ++ [x / 2 ^ (120 - 64) % 256] ++ [x / 2 ^ (112 - 64) % 256] ++ [x / 2 ^ (104 - 64) % 256] ++ [x / 2 ^ (96 - 64) % 256] ++ [x / 2 ^ (88 - 64) % 256] ++ [x / 2 ^ (80 - 64) % 256] ++ [x / 2 ^ (72 - 64) % 256] ++ [x / 2 ^ (64 - 64) % 256] ++ [y / 2 ^ 56 % 256] ++ [y / 2 ^ 48 % 256] ++ [y / 2 ^ 40 % 256] ++ [y / 2 ^ 32 % 256] ++ [y / 2 ^ 24 % 256] ++ [y / 2 ^ 16 % 256] ++ [y / 2 ^ 8 % 256]) (by simp)
      have hz : x / 2 ^ (64 - 64) % 256 = x % 256 := by simp
      rw [hz] at he ⊢
      exact he
theorem and1u (x : Int) (h0 : 0 ≤ x) (h1 : x < 18446744073709551616) : Go.bits .and .u64 x 1 = x % 2 :=
  bits_mask .u64 64 (by decide) (fun n h0 h1 => by rw [IntKind.wrap_u64]; omega) 1 (by decide) x h0 h1
theorem div_two_pow {x : Int} (n : Nat) (h0 : 0 ≤ x) (h1 : x < 18446744073709551616) : 0 ≤ x / 2 ^ n ∧ x / 2 ^ n < 18446744073709551616 := by
  have hp : (0 : Int) < 2 ^ n := Int.pow_pos (by decide)
  refine ⟨Int.ediv_nonneg h0 (Int.le_of_lt hp), ?_⟩
  exact Int.lt_of_le_of_lt (Int.ediv_le_self _ h0) h1
theorem bit_is {X : Int} (h : W64 X) (n : Int) (m : Nat) (hn : n = m) (hm : m ≤ 63) : wrap64 (Go.bits .and .u64 (shr .u64 X n) 1) = X / 2 ^ m % 2 := by
  subst hn
  have hs : shr .u64 X (m : Int) = X / 2 ^ m := by
    unfold shr
    rw [Int.toNat_natCast, Nat.min_eq_left (by simp [IntKind.bits]; omega)]
  have hd := div_two_pow m h.1 h.2
  rw [hs, and1u _ hd.1 hd.2]
  exact w64 _ (by omega) (by omega)
theorem bit_next (q : Int) (j : Nat) : (q / 2 % 2 ^ j) * 2 + q % 2 = q % 2 ^ (j + 1) := by
  have hm : (0 : Int) < 2 ^ j := Int.pow_pos (by decide)
  have hp : (2 : Int) ^ (j + 1) = 2 * 2 ^ j := by rw [Int.pow_succ, Int.mul_comm]
  have r0 := Int.emod_nonneg (q / 2) (Int.ne_of_gt hm)
  have r1 := Int.emod_lt_of_pos (q / 2) hm
  have ha := Int.mul_ediv_add_emod (q / 2) (2 ^ j)
  have hq : q = ((q / 2 % 2 ^ j) * 2 + q % 2) + 2 * 2 ^ j * (q / 2 / 2 ^ j) := by
    rw [Int.mul_assoc]
    omega
  have h1 := Int.add_mul_emod_self_left ((q / 2 % 2 ^ j) * 2 + q % 2) (2 * 2 ^ j) (q / 2 / 2 ^ j)
  rw [← hq] at h1
  rw [hp, h1]
  exact (Int.emod_eq_of_lt (by omega) (by omega)).symm
theorem or_bit (v b : Int) (h0 : 0 ≤ v) (h1 : v < 256) (hb : b = 0 ∨ b = 1) : Go.bits .or .i64 (wrap64 (v * 2)) b = v * 2 + b := by
  rw [w64 _ (by omega) (by omega)]
  exact bits_join .i64 63 (by decide) wraps_i64 1 (v * 2) b (by omega) (by omega) (by omega) (by omega) (by omega) (by omega)
theorem ref_byte {fam hi lo X : Int} {out : List Int} {i : Nat} {S : Nat} {r : List Int} (hX : W64 X) (hS : 8 ≤ S) (hi8 : i ≤ 120) (hout : out.length ≤ 100)
    (hbit : ∀ j : Nat, j < 8 → GA.stockaderef02_Bit.f fam hi lo (wrap64 ((i : Int) + j)) = some (X / 2 ^ (S - 1 - j) % 2))
    (h : Ev (fun k => GA.stockaderef02_Bytes.l0 k (out ++ [X / 2 ^ (S - 8) % 256]) ((i + 8 : Nat) : Int) fam hi lo) r) (d : Nat) :
    ∀ j : Nat, j + d = 8 → Ev (fun k => GA.stockaderef02_Bytes.l1 k out i (X / 2 ^ (S - j) % 2 ^ j) j fam hi lo) r := by
  induction d with
  | zero =>
    intro j hj
    obtain rfl : j = 8 := by omega
    refine Ev.step (fun k => ?_) h
    rw [GA.stockaderef02_Bytes.l1]
    rw [if_neg (by omega), if_pos (by omega)]
    have e1 : wrap64 ((i : Int) + 8) = ((i + 8 : Nat) : Int) := by rw [w64 _ (by omega) (by omega)]; omega
    have e2 : X / 2 ^ (S - 8) % 2 ^ 8 % 256 = X / 2 ^ (S - 8) % 256 := by
      have : (2 : Int) ^ 8 = 256 := by decide
      rw [this, Int.emod_emod]
    rw [e1, e2]
  | succ d ih =>
    intro j hj
    have hih := ih (j + 1) (by omega)
    refine Ev.step (fun k => ?_) hih
    rw [GA.stockaderef02_Bytes.l1]
    rw [if_pos (by omega), hbit j (by omega)]
    simp only [Option.bind_some]
    have e1 : wrap64 ((j : Int) + 1) = ((j + 1 : Nat) : Int) := by rw [w64 _ (by omega) (by omega)]; omega
    have hq : X / 2 ^ (S - j) = X / 2 ^ (S - 1 - j) / 2 := by
      rw [Int.ediv_ediv_of_nonneg (Int.le_of_lt (Int.pow_pos (by decide))), ← Int.pow_succ]
      congr 2
      omega
    have hv0 : 0 ≤ X / 2 ^ (S - j) % 2 ^ j := Int.emod_nonneg _ (Int.ne_of_gt (Int.pow_pos (by decide)))
    have hv1 : X / 2 ^ (S - j) % 2 ^ j < 256 := by
      have h1 := Int.emod_lt_of_pos (X / 2 ^ (S - j)) (Int.pow_pos (by decide) : (0 : Int) < 2 ^ j)
      have h2 : (2 : Nat) ^ j ≤ 2 ^ 7 := Nat.pow_le_pow_right (by decide) (by omega)
      have h3 : ((2 ^ j : Nat) : Int) = 2 ^ j := by simp
      omega
    rw [or_bit _ _ hv0 hv1 (by omega), e1, hq, bit_next]
    have : S - (j + 1) = S - 1 - j := by omega
    rw [this]
set_option maxRecDepth 100000 in
theorem ref_bytes4 {hi lo : Int} (hl : W64 lo) (hl4 : lo < 4294967296) : Ev (fun k => GA.stockaderef02_Bytes.l0 k [] 0 4 hi lo) (d4 lo) := by
  have hbit : ∀ (i j : Nat), i + j ≤ 31 → GA.stockaderef02_Bit.f 4 hi lo (wrap64 ((i : Int) + j)) = some (lo / 2 ^ (32 - i - 1 - j) % 2) := fun i j h => by
    rw [w64 _ (by omega) (by omega)]
    unfold GA.stockaderef02_Bit.f
    have e : wrap64 (31 - ((i : Int) + j)) = ((32 - i - 1 - j : Nat) : Int) := by rw [w64 _ (by omega) (by omega)]; omega
    rw [if_pos rfl, e, if_pos (by omega), bit_is hl _ (32 - i - 1 - j) rfl (by omega)]
  have step : ∀ (i : Nat) (out : List Int), i + 8 ≤ 32 → out.length ≤ 100 → Ev (fun k => GA.stockaderef02_Bytes.l0 k (out ++ [lo / 2 ^ (32 - i - 8) % 256]) ((i + 8 : Nat) : Int) 4 hi lo) (d4 lo) → Ev (fun k => GA.stockaderef02_Bytes.l0 k out (i : Int) 4 hi lo) (d4 lo) := fun i out hi8 ho h => by
    have h1 := ref_byte hl (S := 32 - i) (i := i) (by omega) (by omega) ho (fun j hj => hbit i j (by omega)) h 8 0 rfl
    refine Ev.step (fun k => ?_) h1
    rw [GA.stockaderef02_Bytes.l0]
    unfold GA.stockaderef02_Size.f
    rw [if_pos rfl]
    simp only [Option.bind_some]
    rw [if_pos (by omega)]
    simp
  refine step 0 [] (by omega) (by simp) ?_
  refine step 8 _ (by omega) (by simp) ?_
  refine step 16 _ (by omega) (by simp) ?_
  refine step 24 _ (by omega) (by simp) ?_
  refine Ev.step (fun k => ?_) (Ev.now _)
  rw [GA.stockaderef02_Bytes.l0]
  unfold GA.stockaderef02_Size.f
  simp [d4]
set_option maxRecDepth 100000 in
theorem ref_bytes6 {fam hi lo : Int} (hf : fam ≠ 4) (hh : W64 hi) (hl : W64 lo) : Ev (fun k => GA.stockaderef02_Bytes.l0 k [] 0 fam hi lo) (d8 hi ++ d8 lo) := by
  have hbitH : ∀ (i j : Nat), i + j ≤ 63 → GA.stockaderef02_Bit.f fam hi lo (wrap64 ((i : Int) + j)) = some (hi / 2 ^ (64 - i - 1 - j) % 2) := fun i j h => by
    rw [w64 _ (by omega) (by omega)]
    unfold GA.stockaderef02_Bit.f
    have e : wrap64 (63 - ((i : Int) + j)) = ((64 - i - 1 - j : Nat) : Int) := by rw [w64 _ (by omega) (by omega)]; omega
    rw [if_neg hf, if_pos (by omega), e, if_pos (by omega), bit_is hh _ (64 - i - 1 - j) rfl (by omega)]
  have hbitL : ∀ (i j : Nat), 64 ≤ i + j → i + j ≤ 127 → GA.stockaderef02_Bit.f fam hi lo (wrap64 ((i : Int) + j)) = some (lo / 2 ^ (128 - i - 1 - j) % 2) := fun i j h h' => by
    rw [w64 _ (by omega) (by omega)]
    unfold GA.stockaderef02_Bit.f
    have e : wrap64 (127 - ((i : Int) + j)) = ((128 - i - 1 - j : Nat) : Int) := by rw [w64 _ (by omega) (by omega)]; omega
    rw [if_neg hf, if_neg (by omega), e, if_pos (by omega), bit_is hl _ (128 - i - 1 - j) rfl (by omega)]
  have one : ∀ (i : Nat) (out R : List Int), i + 8 ≤ 128 → Ev (fun k => GA.stockaderef02_Bytes.l1 k out (i : Int) 0 0 fam hi lo) R → Ev (fun k => GA.stockaderef02_Bytes.l0 k out (i : Int) fam hi lo) R := fun i out R hi8 h => by
    refine Ev.step (fun k => ?_) h
    rw [GA.stockaderef02_Bytes.l0]
    unfold GA.stockaderef02_Size.f
    rw [if_neg hf]
    simp only [Option.bind_some]
    rw [if_pos (by omega)]
  have stepH : ∀ (i : Nat) (out R : List Int), i + 8 ≤ 64 → out.length ≤ 100 → Ev (fun k => GA.stockaderef02_Bytes.l0 k (out ++ [hi / 2 ^ (64 - i - 8) % 256]) ((i + 8 : Nat) : Int) fam hi lo) R → Ev (fun k => GA.stockaderef02_Bytes.l0 k out (i : Int) fam hi lo) R := fun i out R hi8 ho h => by
    have h1 := ref_byte hh (S := 64 - i) (i := i) (by omega) (by omega) ho (fun j hj => hbitH i j (by omega)) h 8 0 rfl
    refine one i out R (by omega) (Ev.congr (fun k => ?_) h1)
    simp
  have stepL : ∀ (i : Nat) (out R : List Int), 64 ≤ i → i + 8 ≤ 128 → out.length ≤ 100 → Ev (fun k => GA.stockaderef02_Bytes.l0 k (out ++ [lo / 2 ^ (128 - i - 8) % 256]) ((i + 8 : Nat) : Int) fam hi lo) R → Ev (fun k => GA.stockaderef02_Bytes.l0 k out (i : Int) fam hi lo) R := fun i out R h64 hi8 ho h => by
    have h1 := ref_byte hl (S := 128 - i) (i := i) (by omega) (by omega) ho (fun j hj => hbitL i j (by omega) (by omega)) h 8 0 rfl
    refine one i out R (by omega) (Ev.congr (fun k => ?_) h1)
    simp
  refine stepH 0 [] _ (by omega) (by simp) ?_
  refine stepH 8 _ _ (by omega) (by simp) ?_
  refine stepH 16 _ _ (by omega) (by simp) ?_
  refine stepH 24 _ _ (by omega) (by simp) ?_
  refine stepH 32 _ _ (by omega) (by simp) ?_
  refine stepH 40 _ _ (by omega) (by simp) ?_
  refine stepH 48 _ _ (by omega) (by simp) ?_
  refine stepH 56 _ _ (by omega) (by simp) ?_
  refine stepL 64 _ _ (by omega) (by omega) (by simp) ?_
  refine stepL 72 _ _ (by omega) (by omega) (by simp) ?_
  refine stepL 80 _ _ (by omega) (by omega) (by simp) ?_
  refine stepL 88 _ _ (by omega) (by omega) (by simp) ?_
  refine stepL 96 _ _ (by omega) (by omega) (by simp) ?_
  refine stepL 104 _ _ (by omega) (by omega) (by simp) ?_
  refine stepL 112 _ _ (by omega) (by omega) (by simp) ?_
  refine stepL 120 _ _ (by omega) (by omega) (by simp) ?_
  refine Ev.step (fun k => ?_) (Ev.now _)
  rw [GA.stockaderef02_Bytes.l0]
  unfold GA.stockaderef02_Size.f
  rw [if_neg hf]
  simp [d8]
theorem raddr_Bytes_some {a : Int × Int × Int} (ha : okA a) : ∃ k, GA.stockaderef02_Bytes.f k a.1 a.2.1 a.2.2 = some (bytesA a) := by
  have hr := rright_is ha
  obtain ⟨f, x, y⟩ := a
  have hx := ha.1
  have hy := ha.2
  simp only at hx hy
  unfold GA.stockaderef02_Bytes.f bytesA
  rw [hr]
  simp only [Option.bind_some]
  cases hq : rightA (f, x, y) with
  | false => exact ⟨0, by simp⟩
  | true =>
    simp only [if_true]
    by_cases h4 : f = 4
    · subst h4
      have : y < 4294967296 := by
        simp [rightA] at hq
        exact hq.2
      rw [if_pos rfl]
      exact (ref_bytes4 hy this).rounds
    · rw [if_neg h4]
      exact (ref_bytes6 h4 hx hy).rounds
theorem addrBytes_at (a : Int × Int × Int) (ha : okA a) (w : World) :
    Calls Try.prog 117 #[.agg #[.int .i64 a.1, .int .u64 a.2.1, .int .u64 a.2.2]] w fun e w' => ∃ v : Value, e = .returned v ∧ Kd.R (Kd.int .u8) 5 w' w.heap.size (fun _ => True) v (bytesA a) ∧ Below w.heap.size w w' :=
  have ⟨k, hk⟩ := addr_Bytes_some ha
  GA.addr_Bytes.calls k a.1 a.2.1 a.2.2 _ w hk
theorem raddrBytes_at (a : Int × Int × Int) (ha : okA a) (w : World) :
    Calls Try.prog 119 #[.agg #[.int .i64 a.1, .int .u64 a.2.1, .int .u64 a.2.2]] w fun e w' => ∃ v : Value, e = .returned v ∧ Kd.R (Kd.int .u8) 5 w' w.heap.size (fun _ => True) v (bytesA a) ∧ Below w.heap.size w w' := by
  obtain ⟨k, hk⟩ := raddr_Bytes_some ha
  exact GA.stockaderef02_Bytes.calls k a.1 a.2.1 a.2.2 _ w hk
end Go.Proofs.Ytgifcmbknkjemaa.Own
end
