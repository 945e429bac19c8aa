/- The sums of the program and of the reference, as numbers: both are the folded sum of the words. Plain Lean over the printed functions. -/
import Derived.Test.YtgifcmbknkjemaaGWx2
namespace Go.Proofs.Ytgifcmbknkjemaa.Own
open Go Go.RowKit Go.Proofs.Ytgifcmbknkjemaa.GW Go.Proofs.YtgifcmbknkjemaaW.PrintWords Go.Proofs.YtgifcmbknkjemaaW.PrintLast
set_option linter.unusedVariables false
set_option linter.unusedSimpArgs false

/-! math -/
def wsum : Bool → List Int → Int
  | _, [] => 0
  | true, c :: r => c + wsum false r
  | false, c :: r => 256 * c + wsum true r
def flp : Bool → List Int → Bool
  | b, [] => b
  | b, _ :: r => flp (!b) r
theorem flp_append (b : Bool) (xs ys : List Int) : flp b (xs ++ ys) = flp (flp b xs) ys := by
  induction xs generalizing b with
  | nil => rfl
  | cons c r ih => simp [flp, ih]
theorem wsum_append (b : Bool) (xs ys : List Int) : wsum b (xs ++ ys) = wsum b xs + wsum (flp b xs) ys := by
  induction xs generalizing b with
  | nil => simp [wsum, flp]
  | cons c r ih => cases b <;> simp [wsum, flp, ih] <;> omega
def Bytes (xs : List Int) : Prop := ∀ c ∈ xs, 0 ≤ c ∧ c ≤ 255
theorem wsum_bounds (b : Bool) (xs : List Int) (h : Bytes xs) : 0 ≤ wsum b xs ∧ wsum b xs ≤ 65280 * xs.length := by
  induction xs generalizing b with
  | nil => simp [wsum]
  | cons c r ih =>
    have hc := h c (List.mem_cons_self)
    have hr : Bytes r := fun x hx => h x (List.mem_cons_of_mem _ hx)
    cases b
    · have := ih true hr; simp [wsum]; omega
    · have := ih false hr; simp [wsum]; omega
def fold (n : Int) : Int := if n = 0 then 0 else (n - 1) % 65535 + 1
theorem fold_small (n : Int) (h0 : 0 ≤ n) (h1 : n ≤ 65535) : fold n = n := by
  unfold fold; split <;> omega
theorem fold_bounds (n : Int) : 0 ≤ fold n ∧ fold n ≤ 65535 := by
  unfold fold; split <;> omega
theorem fold_step (n : Int) (h0 : 0 ≤ n) : fold (n / 65536 + n % 65536) = fold n := by
  unfold fold
  by_cases h : n = 0
  · subst h; rfl
  · rw [if_neg h, if_neg (by omega)]
    omega
theorem fold_step_add (n b : Int) (h0 : 0 ≤ n) (hb : 0 ≤ b) : fold (n / 65536 + n % 65536 + b) = fold (n + b) := by
  unfold fold
  by_cases h : n = 0
  · subst h; simp
  · rw [if_neg (by omega), if_neg (by omega)]
    omega
theorem fold_fold_add (a b : Int) (ha : 0 ≤ a) (hb : 0 ≤ b) : fold (fold a + b) = fold (a + b) := by
  unfold fold
  by_cases h : a = 0
  · subst h; simp
  · rw [if_neg h]
    rw [if_neg (by omega), if_neg (by omega)]
    omega

theorem w64 (n : Int) (h0 : -9223372036854775808 ≤ n) (h1 : n ≤ 9223372036854775807) : wrap64 n = n := by unfold wrap64; omega
theorem wsucc (i : Nat) (h : i < 4611686018427387904) : wrap64 ((i : Int) + 1) = ((i + 1 : Nat) : Int) := by unfold wrap64; omega
theorem wraps_i64 (n : Int) (h₀ : 0 ≤ n) (h₁ : n < 2 ^ 63) : IntKind.i64.wrap n = n := by rw [IntKind.wrap_i64]; omega
theorem i64_and65535 (x : Int) (h0 : 0 ≤ x) (h1 : x < 9223372036854775808) : Go.bits .and .i64 x 65535 = x % 65536 := by
  have h := bits_mask .i64 63 (by decide) wraps_i64 16 (by decide) x h0 h1
  exact h

theorem wire_l2_ev (d : Nat) : ∀ n : Int, 0 ≤ n → n < 9223372036854775808 → n.toNat ≤ d → Ev (fun k => wire_Sum.l2 k n) (fold n) := by
  induction d with
  | zero =>
    intro n h0 h1 hd
    refine Ev.step (fun k => ?_) (Ev.now _)
    simp only [wire_Sum.l2]
    rw [if_neg (by omega), fold_small n h0 (by omega)]
  | succ d ih =>
    intro n h0 h1 hd
    by_cases h : n > 65535
    · refine Ev.step (f := fun k => wire_Sum.l2 k (n / 65536 + n % 65536)) (fun k => ?_) ?_
      · simp only [wire_Sum.l2]
        rw [if_pos h, i64_and65535 n h0 h1, w64 _ (by omega) (by omega)]
      · have := ih (n / 65536 + n % 65536) (by omega) (by omega) (by omega)
        rwa [fold_step n h0] at this
    · refine Ev.step (fun k => ?_) (Ev.now _)
      simp only [wire_Sum.l2]
      rw [if_neg h, fold_small n h0 (by omega)]

/-- The inner loop, from place i on: it goes on to the outer one. -/
theorem wire_l1_ev (l : List (List Int)) (j : Int) (p : List Int) (hp : Bytes p) (hl : p.length ≤ 140737488353000) (r : Int) (d : Nat) : ∀ (i : Nat) (n : Int) (b : Bool), p.length - i = d → i ≤ p.length → 0 ≤ n → n + 65280 * (p.length - i : Nat) < 9223372036854775807 - 65536 →
    Ev (fun k => wire_Sum.l0 k ((n + wsum b (p.drop i)) / 65536 + (n + wsum b (p.drop i)) % 65536) (flp b (p.drop i)) l l.length (wrap64 (j + 1))) r →
    Ev (fun k => wire_Sum.l1 k n b l l.length j p p.length i) r := by
  induction d with
  | zero =>
    intro i n b hd hi h0 h1 h
    have hi : i = p.length := by omega
    subst hi
    simp only [List.drop_length, wsum, flp, Int.add_zero] at h
    refine Ev.step (fun k => ?_) h
    simp only [wire_Sum.l1]
    rw [if_neg (by omega), i64_and65535 n h0 (by omega), w64 _ (by omega) (by omega)]
  | succ d ih =>
    intro i n b hd hi h0 h1 h
    have hlt : i < p.length := by omega
    have hc := hp p[i] (List.getElem_mem _)
    have hrd : rd p (i : Int) = p[i] := by simp [rd, List.getD_eq_getElem?_getD, List.getElem?_eq_getElem hlt]
    rw [List.drop_eq_getElem_cons hlt] at h
    cases b with
    | true =>
      simp only [wsum, flp, Bool.not_true] at h
      rw [← Int.add_assoc] at h
      refine Ev.step (fun k => ?_) (ih (i + 1) (n + p[i]) false (by omega) (by omega) (by omega) (by omega) h)
      simp only [wire_Sum.l1]
      rw [if_pos (by omega), if_pos (by omega), if_pos (by omega), if_pos trivial, hrd, w64 p[i] (by omega) (by omega), w64 (n + p[i]) (by omega) (by omega), wsucc i (by omega)]
      rfl
    | false =>
      simp only [wsum, flp, Bool.not_false] at h
      rw [← Int.add_assoc] at h
      refine Ev.step (fun k => ?_) (ih (i + 1) (n + 256 * p[i]) true (by omega) (by omega) (by omega) (by omega) h)
      simp only [wire_Sum.l1]
      rw [if_pos (by omega), if_pos (by omega), if_pos (by omega), if_neg (by simp), hrd, w64 p[i] (by omega) (by omega), w64 (p[i] * 256) (by omega) (by omega), w64 (n + p[i] * 256) (by omega) (by omega), wsucc i (by omega), Int.mul_comm p[i] 256]
      rfl

def Parts (l : List (List Int)) : Prop := ∀ p ∈ l, Bytes p ∧ p.length ≤ 140737488353000
theorem wire_l0_ev (l : List (List Int)) (hl : Parts l) (hn : l.length ≤ 140737488351232) (d : Nat) : ∀ (j : Nat) (n : Int) (b : Bool), l.length - j = d → j ≤ l.length → 0 ≤ n → n ≤ 140737488421000 →
    Ev (fun k => wire_Sum.l0 k n b l l.length j) (fold (n + wsum b (l.drop j).flatten)) := by
  induction d with
  | zero =>
    intro j n b hd hj h0 h1
    have hj : j = l.length := by omega
    subst hj
    simp only [List.drop_length, List.flatten_nil, wsum, Int.add_zero]
    refine Ev.step (fun k => ?_) (wire_l2_ev _ n h0 (by omega) (Nat.le_refl _))
    simp only [wire_Sum.l0]
    rw [if_neg (by omega)]
  | succ d ih =>
    intro j n b hd hj h0 h1
    have hlt : j < l.length := by omega
    have hp := hl l[j] (List.getElem_mem _)
    have hrd : rd_L1 l (j : Int) = l[j] := by simp [rd_L1, List.getD_eq_getElem?_getD, List.getElem?_eq_getElem hlt]
    have hb := wsum_bounds b l[j] hp.1
    have hlen := hp.2
    refine Ev.step (fun k => ?_) (wire_l1_ev l j l[j] hp.1 hp.2 _ _ 0 n b rfl (by omega) h0 (by omega) ?_)
    · simp only [wire_Sum.l0]
      rw [if_pos (by omega), if_pos (by omega), if_pos (by omega), hrd]
      rfl
    · rw [List.drop_zero, wsucc j (by omega)]
      have := ih (j + 1) ((n + wsum b l[j]) / 65536 + (n + wsum b l[j]) % 65536) (flp b l[j]) (by omega) (by omega) (by omega) (by omega)
      rw [List.drop_eq_getElem_cons hlt, List.flatten_cons, wsum_append, ← Int.add_assoc]
      have hb2 : 0 ≤ wsum (flp b l[j]) (l.drop (j + 1)).flatten := (wsum_bounds _ _ (by
        intro c hc
        obtain ⟨p, hp, hc⟩ := List.mem_flatten.1 hc
        exact (hl p (List.mem_of_mem_drop hp)).1 c hc)).1
      rwa [fold_step_add _ _ (by omega) hb2] at this
def sumOf (l : List (List Int)) : Int := fold (wsum false l.flatten)
theorem wire_Sum_ev (l : List (List Int)) (hl : Parts l) (hn : l.length ≤ 140737488351232) : Ev (fun k => wire_Sum.f k l) (sumOf l) := by
  have := wire_l0_ev l hl hn _ 0 0 false rfl (by omega) (by omega) (by omega)
  simpa [sumOf, wire_Sum.f] using this

/-! ### the reference's -/
theorem ref_l2_ev (l : List (List Int)) (x4 x5 x6 : Int) (r : Int) (d : Nat) : ∀ n : Int, 0 ≤ n → n < 9223372036854775808 → n.toNat ≤ d →
    Ev (fun k => stockaderef01_Sum.l1 k l (fold n) (wrap64 (1 - x4)) x5 (wrap64 (x6 + 1))) r → Ev (fun k => stockaderef01_Sum.l2 k l n x4 x5 x6) r := by
  induction d with
  | zero =>
    intro n h0 h1 hd h
    rw [fold_small n h0 (by omega)] at h
    refine Ev.step (fun k => ?_) h
    simp only [stockaderef01_Sum.l2]
    rw [if_neg (by omega)]
  | succ d ih =>
    intro n h0 h1 hd h
    by_cases hn : n > 65535
    · refine Ev.step (fun k => ?_) (ih (n / 65536 + n % 65536) (by omega) (by omega) (by omega) (by rwa [fold_step n h0]))
      simp only [stockaderef01_Sum.l2]
      rw [if_pos hn, i64_and65535 n h0 h1, w64 _ (by omega) (by omega), Int.add_comm (n % 65536)]
    · rw [fold_small n h0 (by omega)] at h
      refine Ev.step (fun k => ?_) h
      simp only [stockaderef01_Sum.l2]
      rw [if_neg hn]
def atOf (b : Bool) : Int := if b then 1 else 0
theorem a0 : atOf false = 0 := rfl
theorem a1 : atOf true = 1 := rfl
theorem e0 : wrap64 (1 - 1) = atOf false := by rw [w64 _ (by omega) (by omega)]; rfl
theorem e1 : wrap64 (1 - 0) = atOf true := by rw [w64 _ (by omega) (by omega)]; rfl
theorem ref_l1_ev (l : List (List Int)) (hn : l.length ≤ 140737488351232) (j : Nat) (hj : j < l.length) (hp : Bytes l[j]) (hl : l[j].length ≤ 140737488353000) (r : Int) (d : Nat) : ∀ (i : Nat) (n : Int) (b : Bool), l[j].length - i = d → i ≤ l[j].length → 0 ≤ n → n ≤ 65535 →
    Ev (fun k => stockaderef01_Sum.l0 k l (fold (n + wsum b (l[j].drop i))) (atOf (flp b (l[j].drop i))) ((j + 1 : Nat) : Int)) r →
    Ev (fun k => stockaderef01_Sum.l1 k l n (atOf b) j i) r := by
  have hrdL : rd_L1 l (j : Int) = l[j] := by simp [rd_L1, List.getD_eq_getElem?_getD, List.getElem?_eq_getElem hj]
  induction d with
  | zero =>
    intro i n b hd hi h0 h1 h
    have hi : i = l[j].length := by omega
    subst hi
    simp only [List.drop_length, wsum, flp, Int.add_zero] at h
    rw [fold_small n h0 h1] at h
    refine Ev.step (fun k => ?_) h
    simp only [stockaderef01_Sum.l1]
    rw [if_pos (by omega), if_pos (by omega), hrdL, if_neg (by omega), w64 _ (by omega) (by omega)]
    rfl
  | succ d ih =>
    intro i n b hd hi h0 h1 h
    have hlt : i < l[j].length := by omega
    have hc := hp l[j][i] (List.getElem_mem _)
    have hrd : rd l[j] (i : Int) = l[j][i] := by simp [rd, List.getD_eq_getElem?_getD, List.getElem?_eq_getElem hlt]
    have hlo := wsum_bounds true (l[j].drop (i + 1)) (fun c hc => hp c (List.mem_of_mem_drop hc))
    have hlo' := wsum_bounds false (l[j].drop (i + 1)) (fun c hc => hp c (List.mem_of_mem_drop hc))
    rw [List.drop_eq_getElem_cons hlt] at h
    cases b with
    | true =>
      simp only [wsum, flp, Bool.not_true] at h
      rw [← Int.add_assoc, ← fold_fold_add (n + l[j][i]) _ (by omega) hlo'.1] at h
      have hf := fold_bounds (n + l[j][i])
      have h2 := ref_l2_ev l 1 (j : Int) (i : Int) r _ (n + l[j][i]) (by omega) (by omega) (Nat.le_refl _) (by
        have h3 := ih (i + 1) (fold (n + l[j][i])) false (by omega) (by omega) hf.1 hf.2 h
        rw [wsucc i (by omega), e0]; exact h3)
      refine Ev.step (f := fun k => stockaderef01_Sum.j2 k l n 1 j i l[j][i]) (fun k => ?_) (Ev.step (fun k => ?_) h2)
      · rw [a1]
        simp only [stockaderef01_Sum.l1]
        rw [if_pos (by omega), if_pos (by omega), hrdL, if_pos (by omega), if_pos (by omega), if_neg (by decide), hrd, w64 l[j][i] (by omega) (by omega)]
      · simp only [stockaderef01_Sum.j2]
        rw [w64 (n + l[j][i]) (by omega) (by omega)]
    | false =>
      simp only [wsum, flp, Bool.not_false] at h
      rw [← Int.add_assoc, ← fold_fold_add (n + 256 * l[j][i]) _ (by omega) hlo.1] at h
      have hf := fold_bounds (n + 256 * l[j][i])
      have h2 := ref_l2_ev l 0 (j : Int) (i : Int) r _ (n + 256 * l[j][i]) (by omega) (by omega) (Nat.le_refl _) (by
        have h3 := ih (i + 1) (fold (n + 256 * l[j][i])) true (by omega) (by omega) hf.1 hf.2 h
        rw [wsucc i (by omega), e1]; exact h3)
      refine Ev.step (f := fun k => stockaderef01_Sum.j2 k l n 0 j i (256 * l[j][i])) (fun k => ?_) (Ev.step (fun k => ?_) h2)
      · rw [a0]
        simp only [stockaderef01_Sum.l1]
        rw [if_pos (by omega), if_pos (by omega), hrdL, if_pos (by omega), if_pos (by omega), if_pos trivial, hrd, w64 l[j][i] (by omega) (by omega), w64 (l[j][i] * 256) (by omega) (by omega), Int.mul_comm]
      · simp only [stockaderef01_Sum.j2]
        rw [w64 (n + 256 * l[j][i]) (by omega) (by omega)]
theorem ref_l0_ev (l : List (List Int)) (hl : Parts l) (hn : l.length ≤ 140737488351232) (d : Nat) : ∀ (j : Nat) (n : Int) (b : Bool), l.length - j = d → j ≤ l.length → 0 ≤ n → n ≤ 65535 →
    Ev (fun k => stockaderef01_Sum.l0 k l n (atOf b) j) (fold (n + wsum b (l.drop j).flatten)) := by
  induction d with
  | zero =>
    intro j n b hd hj h0 h1
    have hj : j = l.length := by omega
    subst hj
    simp only [List.drop_length, List.flatten_nil, wsum, Int.add_zero]
    rw [fold_small n h0 h1]
    refine Ev.step (fun k => ?_) (Ev.now _)
    simp only [stockaderef01_Sum.l0]
    rw [if_neg (by omega)]
  | succ d ih =>
    intro j n b hd hj h0 h1
    have hlt : j < l.length := by omega
    have hp := hl l[j] (List.getElem_mem _)
    have hb := wsum_bounds b l[j] hp.1
    have hf := fold_bounds (n + wsum b l[j])
    refine Ev.step (fun k => ?_) (ref_l1_ev l hn j hlt hp.1 hp.2 _ _ 0 n b rfl (by omega) h0 h1 ?_)
    · simp only [stockaderef01_Sum.l0]
      rw [if_pos (by omega)]
      rfl
    · rw [List.drop_zero]
      have := ih (j + 1) (fold (n + wsum b l[j])) (flp b l[j]) (by omega) (by omega) hf.1 hf.2
      rw [List.drop_eq_getElem_cons hlt, List.flatten_cons, wsum_append, ← Int.add_assoc]
      have hb2 : 0 ≤ wsum (flp b l[j]) (l.drop (j + 1)).flatten := (wsum_bounds _ _ (by
        intro c hc
        obtain ⟨p, hp, hc⟩ := List.mem_flatten.1 hc
        exact (hl p (List.mem_of_mem_drop hp)).1 c hc)).1
      rwa [fold_fold_add _ _ (by omega) hb2] at this
theorem ref_Sum_ev (l : List (List Int)) (hl : Parts l) (hn : l.length ≤ 140737488351232) : Ev (fun k => stockaderef01_Sum.f k l) (sumOf l) := by
  have := ref_l0_ev l hl hn _ 0 0 false rfl (by omega) (by omega) (by omega)
  simpa [sumOf, stockaderef01_Sum.f, atOf] using this

end Go.Proofs.Ytgifcmbknkjemaa.Own
