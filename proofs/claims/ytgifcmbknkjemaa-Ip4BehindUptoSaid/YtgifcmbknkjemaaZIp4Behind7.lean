/- What the law Ip4Behind rests on, part 7: contracts of the functions that it calls, and plain lemmas. No condition. -/
import Derived.Test.YtgifcmbknkjemaaZIp4Behind6
section
namespace Go.Proofs.Ytgifcmbknkjemaa.GW
open Go.RowKit Go.Proofs.YtgifcmbknkjemaaW.PrintWords Go.Proofs.YtgifcmbknkjemaaW.PrintLast Go.Proofs.YtgifcmbknkjemaaW.PrintMore Go.Proofs.Ytgifcmbknkjemaa.Own
attribute [local go_sem] max2_int min2_int max_two min_two max_three min_three max_four min_four   -- for this text's walks alone
set_option linter.unusedVariables false
set_option linter.unusedSimpArgs false
def wire_Put16.f (l0 : List Int) (a1 : Int) : Option (List Int) := (slices_Clone_byte_byte.f l0).bind fun t135 => ((some (([(a1 / 256) % 256, (a1) % 256] : List Int) : List Int)).bind fun y138 => (if t135.length + y138.length < 140737488355328 then (some (t135 ++ y138)) else (none)))
set_option maxHeartbeats 8000000 in
set_option maxRecDepth 100000 in
theorem wire_Put16.calls (A0 : Option Addr) (c0 : Nat) (l0 : List Int) (a1 : Int) (r : List Int) (w : World) (hr0 : Kd.C (Kd.int .u8) w A0 l0.length l0) (hc0 : l0.length ≤ c0) (h : wire_Put16.f l0 a1 = some r) :
    Calls Try.prog 44 #[.slice A0 l0.length c0, .int .i64 a1] w fun e w' => ∃ v0_ : Value, e = .returned (v0_) ∧ Kd.R (Kd.int .u8) 5 w' w.heap.size (fun _ => True) v0_ r ∧ Below w.heap.size w w' := by
  have HR0 := Aside0.mk hr0
  have HC0 := Aside0.mk hc0
  clear hr0 hc0
  have HB := Aside0.mk (Below.refl w.heap.size w)
  have H : ((slices_Clone_byte_byte.f l0).bind fun t135 => ((some (([(a1 / 256) % 256, (a1) % 256] : List Int) : List Int)).bind fun y138 => (if t135.length + y138.length < 140737488355328 then (some (t135 ++ y138)) else (none)))) = some r := h
  clear h
  replace H := Option.bind_eq_some_iff.mp H
  obtain ⟨t135, A30, H⟩ := H
  replace H : ((some (([(a1 / 256) % 256, (a1) % 256] : List Int) : List Int)).bind fun y138 => (if t135.length + y138.length < 140737488355328 then (some (t135 ++ y138)) else (none))) = some r := H
  have A3 := Aside0.mk A30
  clear A30
  obtain ⟨y138, hy138⟩ : ∃ y_ : List Int, y_ = (([(a1 / 256) % 256, (a1) % 256] : List Int)) := ⟨_, rfl⟩
  replace H : (if t135.length + y138.length < 140737488355328 then (some (t135 ++ y138)) else (none)) = some r := by first | (rw [hy138]; with_reducible exact H) | (have H2_ := (Option.bind_some _ _).symm.trans H; rw [hy138]; with_reducible exact H2_) | (have H2_ := (Option.bind_some _ _).symm.trans H; with_reducible exact H2_) | with_reducible exact H | (rw [hy138]; exact H) | exact H
  have Ny138 := Aside0.mk hy138
  clear hy138
  by_cases c4 : t135.length + y138.length < 140737488355328
  · rw [if_pos c4] at H
    have LMc4 := Aside0.mk c4
    clear c4
    obtain ⟨y141, hy141⟩ : ∃ y_ : List Int, y_ = (t135 ++ y138) := ⟨_, rfl⟩
    replace H : (some y141) = some r := by first | (rw [hy141]; with_reducible exact H) | (have H2_ := (Option.bind_some _ _).symm.trans H; rw [hy141]; with_reducible exact H2_) | (have H2_ := (Option.bind_some _ _).symm.trans H; with_reducible exact H2_) | with_reducible exact H | (rw [hy141]; exact H) | exact H
    have Ny141 := Aside0.mk hy141
    clear hy141
    obtain rfl := Option.some.inj H
    go_enter Try.func44, Try.ntmps44
    go_wp2_with (first | ((with_reducible refine gate_callee (f := 98) rfl ?_); refine goesL_ (some 6) rfl rfl Try.func98 (by kernel_rfl) rfl #[.slice A0 l0.length c0] rfl (by (try simp only [List.map_toArray, List.map_cons, List.map_nil]); first | done | rfl | (simp only [List.length_drop, List.length_take]; rfl)) ?_; (with_reducible refine (slices_Clone_byte_byte.calls _ _ l0 t135 _ ?side1 ?side2 A3.out).mono ?_); (case side1 => repeat (first | exact HR0.out | (with_reducible refine Kd.C_alloc ?_ _) | (with_reducible refine Kd.C_drewN ?_ _) | (with_reducible refine Kd.C_drew ?_))); (case side2 => exact HC0.out); rintro e w5 ⟨v136, rfl, ho0, hb⟩; refine ⟨_, rfl, ?_⟩; have n0_ := Aside0.mk (Kd.R_lower ho0 (below_size (by repeat (first | (with_reducible first | exact HB.out | apply below_alloc | apply pw_below_drewN | apply below_drew1) | exact HB.out)))); have n1_ := Aside0.mk (below_step (by repeat (first | (with_reducible first | exact HB.out | apply below_alloc | apply pw_below_drewN | apply below_drew1) | exact HB.out)) hb); clear HB; have HO137 := n0_; have HB := n1_; clear n0_ n1_; (try clear hb); (try clear hb2); (try clear hk); (try clear hi); (try clear ho0)) | ((with_reducible refine gate_dst (N := 12) rfl ?_); refine Kd.R_lit (Kd.int .u8) _ 5 ?hg (N := 12) ?hd (xs := ([(a1 / 256) % 256, (a1) % 256] : List Int)) (inner := [.int .u8 ((a1 / 256) % 256), .int .u8 ((a1) % 256)]) (ok := fun _ => True) (okp := fun _ => True) ?hr ?hp (fun _ hk => hk) trivial (Below.refl _ _) (Nat.le_refl _) (by simp) ?_; (case hd => rfl); (case hg => rfl); (case hr => first | (go_simp; done) | (go_simp; rfl)); (case hp => exact (Reps.one (show Kd.M (Kd.int .u8) _ _ _ ((a1 / 256) % 256) [.int .u8 ((a1 / 256) % 256)] from rfl) (Reps.one (show Kd.M (Kd.int .u8) _ _ _ ((a1) % 256) [.int .u8 ((a1) % 256)] from rfl) (Reps.none _ _)))); intro v139 w6 ho7 hb hg_ hnew_; clear hg_ hnew_; (first | rw [← Ny138.out] at ho7 | (simp only [Int.reduceToNat] at ho7; rw [← Ny138.out] at ho7)); have n0_ := Aside0.mk (Kd.R_elder' (by (with_reducible repeat (first | apply Kd.R_alloc | apply Kd.R_drewN | apply Kd.R_drew)); exact HO137.out) (Kd.R_base ho7) hb); have n1_ := Aside0.mk (Kd.R_lower (Kd.R_new' ho7 (Kd.R_lt (by (with_reducible repeat (first | apply Kd.R_alloc | apply Kd.R_drewN | apply Kd.R_drew)); exact HO137.out))) (below_size (by repeat (first | (with_reducible first | exact HB.out | apply below_alloc | apply pw_below_drewN | apply below_drew1) | exact HB.out)))); have n2_ := Aside0.mk (below_step (by repeat (first | (with_reducible first | exact HB.out | apply below_alloc | apply pw_below_drewN | apply below_drew1) | exact HB.out)) hb); clear HO137; clear HB; have HO137 := n0_; have HO140 := n1_; have HB := n2_; clear n0_ n1_ n2_; clear hb ho7; obtain ⟨Ao9, co9, eo9⟩ := Kd.R_slice HO140.out; subst eo9) | ((with_reducible refine gate_builtin (b := .append) (xs := #[.tmp 6, .tmp 12]) rfl ?_); at_builtin; refine Kd.R_append_rows (Kd.int .u8) (w0 := w) w.heap.size rfl (.tmp 6) (.tmp 12) 27 5 (.int .u8 0) 1 rfl Try.underlying27 info5 rfl (by decide) (by omega) v136 t135 y138 _ _ _ (fun k_ => some k_ ≠ (.slice Ao9 y138.length co9 : Value).ownBlock) (fun _ => False) rfl rfl ?aO ?aR (fun _ _ h => h) (fun _ h => h.elim) ?aF ?aB ?aS ?aL ?_; (case aR => repeat (first | exact (Kd.R_reads' HO140.out).2.2 | (with_reducible refine Kd.C_alloc ?_ _) | (with_reducible refine Kd.C_drewN ?_ _) | (with_reducible refine Kd.C_drew ?_))); (case aB => exact (by repeat (first | (with_reducible first | exact HB.out | apply below_alloc | apply pw_below_drewN | apply below_drew1) | exact HB.out))); (case aF => exact (fun k_ hk => Kd.fresh' (Kd.R_lt (by (with_reducible repeat (first | apply Kd.R_alloc | apply Kd.R_drewN | apply Kd.R_drew)); exact HO140.out)) k_ hk)); (case aO => exact (by (with_reducible repeat (first | apply Kd.R_alloc | apply Kd.R_drewN | apply Kd.R_drew)); exact Kd.R_mono HO137.out (fun _ hk => hk.2))); (case aS => exact (below_size (by repeat (first | (with_reducible first | exact HB.out | apply below_alloc | apply pw_below_drewN | apply below_drew1) | exact HB.out)))); (case aL => have := LMc4.out; omega); intro v142 w8 ho hb hg hat; rw [← Ny141.out] at ho; have n0_ := Aside0.mk (Kd.R_after (ok := (fun _ => True)) (by (with_reducible repeat (first | apply Kd.R_alloc | apply Kd.R_drewN | apply Kd.R_drew)); exact HO140.out) hg hat); have n1_ := Aside0.mk (hb); have n2_ := Aside0.mk (ho); clear HO140; clear HB; clear HO137; have HO140 := n0_; have HB := n1_; have HO143 := n2_; clear n0_ n1_ n2_; clear ho hb hg hat))
    go_ret
    exact ⟨_, by first | rfl | (simp [errW_none, errW_some] <;> rfl) | (simp [*, errW_none, errW_some] <;> rfl), by (with_reducible repeat (first | apply Kd.R_alloc | apply Kd.R_drewN | apply Kd.R_drew)); exact Kd.R_mono HO143.out (fun _ hk => trivial), by repeat (first | (with_reducible first | exact HB.out | apply below_alloc | apply pw_below_drewN | apply below_drew1) | exact HB.out)⟩
  · rw [if_neg c4] at H
    exact absurd H (by simp)
def stockaderef01_Same.f (l0 : List Int) (l1 : List Int) : Option (Bool) := some ((strOfNums l0).toList == (strOfNums l1).toList)
set_option maxHeartbeats 8000000 in
set_option maxRecDepth 100000 in
theorem stockaderef01_Same.calls (A0 : Option Addr) (c0 : Nat) (l0 : List Int) (A1 : Option Addr) (c1 : Nat) (l1 : List Int) (r : Bool) (w : World) (hr0 : Kd.C (Kd.int .u8) w A0 l0.length l0) (hc0 : l0.length ≤ c0) (hr1 : Kd.C (Kd.int .u8) w A1 l1.length l1) (hc1 : l1.length ≤ c1) (h : stockaderef01_Same.f l0 l1 = some r) :
    Calls Try.prog 46 #[.slice A0 l0.length c0, .slice A1 l1.length c1] w fun e w' => e = .returned (.bool r) ∧ Drawn0 w w' := by
  have HR0 := Aside0.mk hr0
  have HC0 := Aside0.mk hc0
  clear hr0 hc0
  have HR1 := Aside0.mk hr1
  have HC1 := Aside0.mk hc1
  clear hr1 hc1
  have H : (some ((strOfNums l0).toList == (strOfNums l1).toList)) = some r := h
  clear h
  obtain rfl := Option.some.inj H
  have hcv3 := Kd.C_string (P := Try.prog) (A := A0) (c := c0) Try.underlying27 Try.underlying5 Try.underlying9 HR0.out
  have hcv4 := Kd.C_string (P := Try.prog) (A := A1) (c := c1) Try.underlying27 Try.underlying5 Try.underlying9 HR1.out
  go_enter Try.func46, Try.ntmps46
  go_wp2
  go_ret
  exact ⟨by first | rfl | (simp; done) | (simp [*]; done), by repeat (first | exact Drawn0.refl _ | apply Drawn0.step)⟩
end Go.Proofs.Ytgifcmbknkjemaa.GW
end
section
namespace Go.Proofs.Ytgifcmbknkjemaa.Own
open Go Go.RowKit Go.Proofs.Ytgifcmbknkjemaa.GW Go.Proofs.YtgifcmbknkjemaaW.PrintWords Go.Proofs.YtgifcmbknkjemaaW.PrintLast
set_option linter.unusedVariables false
set_option linter.unusedSimpArgs false
def wsum : Bool → List Int → Int
  | _, [] => 0
  | true, c :: r => c + wsum false r
  | false, c :: r => 256 * c + wsum true r
def flp : Bool → List Int → Bool
  | b, [] => b
  | b, _ :: r => flp (!b) r
theorem wsum_append (b : Bool) (xs ys : List Int) : wsum b (xs ++ ys) = wsum b xs + wsum (flp b xs) ys := by
  induction xs generalizing b with
  | nil => simp [wsum, flp]
  | cons c r ih => cases b <;> simp [wsum, flp, ih] <;> omega
def Bytes (xs : List Int) : Prop := ∀ c ∈ xs, 0 ≤ c ∧ c ≤ 255
theorem wsum_bounds (b : Bool) (xs : List Int) (h : Bytes xs) : 0 ≤ wsum b xs ∧ wsum b xs ≤ 65280 * xs.length := by
  induction xs generalizing b with
  | nil => simp [wsum]
  | cons c r ih =>
    have hc := h c (List.mem_cons_self)
    have hr : Bytes r := fun x hx => h x (List.mem_cons_of_mem _ hx)
    cases b
    · have := ih true hr; simp [wsum]; omega
    · have := ih false hr; simp [wsum]; omega
def fold (n : Int) : Int := if n = 0 then 0 else (n - 1) % 65535 + 1
theorem fold_small (n : Int) (h0 : 0 ≤ n) (h1 : n ≤ 65535) : fold n = n := by
  unfold fold; split <;> omega
theorem fold_bounds (n : Int) : 0 ≤ fold n ∧ fold n ≤ 65535 := by
  unfold fold; split <;> omega
theorem fold_step (n : Int) (h0 : 0 ≤ n) : fold (n / 65536 + n % 65536) = fold n := by
  unfold fold
  by_cases h : n = 0
  · subst h; rfl
  · rw [if_neg h, if_neg (by omega)]
    omega
theorem fold_step_add (n b : Int) (h0 : 0 ≤ n) (hb : 0 ≤ b) : fold (n / 65536 + n % 65536 + b) = fold (n + b) := by
  unfold fold
  by_cases h : n = 0
  · subst h; simp
  · rw [if_neg (by omega), if_neg (by omega)]
    omega
theorem w64 (n : Int) (h0 : -9223372036854775808 ≤ n) (h1 : n ≤ 9223372036854775807) : wrap64 n = n := by unfold wrap64; omega
theorem wsucc (i : Nat) (h : i < 4611686018427387904) : wrap64 ((i : Int) + 1) = ((i + 1 : Nat) : Int) := by unfold wrap64; omega
theorem wraps_i64 (n : Int) (h₀ : 0 ≤ n) (h₁ : n < 2 ^ 63) : IntKind.i64.wrap n = n := by rw [IntKind.wrap_i64]; omega
theorem i64_and65535 (x : Int) (h0 : 0 ≤ x) (h1 : x < 9223372036854775808) : Go.bits .and .i64 x 65535 = x % 65536 := by
  have h := bits_mask .i64 63 (by decide) wraps_i64 16 (by decide) x h0 h1
  exact h
theorem wire_l2_ev (d : Nat) : ∀ n : Int, 0 ≤ n → n < 9223372036854775808 → n.toNat ≤ d → Ev (fun k => wire_Sum.l2 k n) (fold n) := by
  induction d with
  | zero =>
    intro n h0 h1 hd
    refine Ev.step (fun k => ?_) (Ev.now _)
    simp only [wire_Sum.l2]
    rw [if_neg (by omega), fold_small n h0 (by omega)]
  | succ d ih =>
    intro n h0 h1 hd
    by_cases h : n > 65535
    · refine Ev.step (f := fun k => wire_Sum.l2 k (n / 65536 + n % 65536)) (fun k => ?_) ?_
      · simp only [wire_Sum.l2]
        rw [if_pos h, i64_and65535 n h0 h1, w64 _ (by omega) (by omega)]
      · have := ih (n / 65536 + n % 65536) (by omega) (by omega) (by omega)
        rwa [fold_step n h0] at this
    · refine Ev.step (fun k => ?_) (Ev.now _)
      simp only [wire_Sum.l2]
      rw [if_neg h, fold_small n h0 (by omega)]
theorem wire_l1_ev (l : List (List Int)) (j : Int) (p : List Int) (hp : Bytes p) (hl : p.length ≤ 140737488353000) (r : Int) (d : Nat) : ∀ (i : Nat) (n : Int) (b : Bool), p.length - i = d → i ≤ p.length → 0 ≤ n → n + 65280 * (p.length - i : Nat) < 9223372036854775807 - 65536 →
    Ev (fun k => wire_Sum.l0 k ((n + wsum b (p.drop i)) / 65536 + (n + wsum b (p.drop i)) % 65536) (flp b (p.drop i)) l l.length (wrap64 (j + 1))) r →
    Ev (fun k => wire_Sum.l1 k n b l l.length j p p.length i) r := by
  induction d with
  | zero =>
    intro i n b hd hi h0 h1 h
    have hi : i = p.length := by omega
    subst hi
    simp only [List.drop_length, wsum, flp, Int.add_zero] at h
    refine Ev.step (fun k => ?_) h
    simp only [wire_Sum.l1]
    rw [if_neg (by omega), i64_and65535 n h0 (by omega), w64 _ (by omega) (by omega)]
  | succ d ih =>
    intro i n b hd hi h0 h1 h
    have hlt : i < p.length := by omega
    have hc := hp p[i] (List.getElem_mem _)
    have hrd : rd p (i : Int) = p[i] := by simp [rd, List.getD_eq_getElem?_getD, List.getElem?_eq_getElem hlt]
    rw [List.drop_eq_getElem_cons hlt] at h
    cases b with
    | true =>
      simp only [wsum, flp, Bool.not_true] at h
      rw [← Int.add_assoc] at h
      refine Ev.step (fun k => ?_) (ih (i + 1) (n + p[i]) false (by omega) (by omega) (by omega) (by omega) h)
      simp only [wire_Sum.l1]
      rw [if_pos (by omega), if_pos (by omega), if_pos (by omega), if_pos trivial, hrd, w64 p[i] (by omega) (by omega), w64 (n + p[i]) (by omega) (by omega), wsucc i (by omega)]
      rfl
    | false =>
      simp only [wsum, flp, Bool.not_false] at h
      rw [← Int.add_assoc] at h
      refine Ev.step (fun k => ?_) (ih (i + 1) (n + 256 * p[i]) true (by omega) (by omega) (by omega) (by omega) h)
      simp only [wire_Sum.l1]
      rw [if_pos (by omega), if_pos (by omega), if_pos (by omega), if_neg (by simp), hrd, w64 p[i] (by omega) (by omega), w64 (p[i] * 256) (by omega) (by omega), w64 (n + p[i] * 256) (by omega) (by omega), wsucc i (by omega), Int.mul_comm p[i] 256]
      rfl
def Parts (l : List (List Int)) : Prop := ∀ p ∈ l, Bytes p ∧ p.length ≤ 140737488353000
theorem wire_l0_ev (l : List (List Int)) (hl : Parts l) (hn : l.length ≤ 140737488351232) (d : Nat) : ∀ (j : Nat) (n : Int) (b : Bool), l.length - j = d → j ≤ l.length → 0 ≤ n → n ≤ 140737488421000 →
    Ev (fun k => wire_Sum.l0 k n b l l.length j) (fold (n + wsum b (l.drop j).flatten)) := by
  induction d with
  | zero =>
    intro j n b hd hj h0 h1
    have hj : j = l.length := by omega
    subst hj
    simp only [List.drop_length, List.flatten_nil, wsum, Int.add_zero]
    refine Ev.step (fun k => ?_) (wire_l2_ev _ n h0 (by omega) (Nat.le_refl _))
    simp only [wire_Sum.l0]
    rw [if_neg (by omega)]
  | succ d ih =>
    intro j n b hd hj h0 h1
    have hlt : j < l.length := by omega
    have hp := hl l[j] (List.getElem_mem _)
    have hrd : rd_L1 l (j : Int) = l[j] := by simp [rd_L1, List.getD_eq_getElem?_getD, List.getElem?_eq_getElem hlt]
    have hb := wsum_bounds b l[j] hp.1
    have hlen := hp.2
    refine Ev.step (fun k => ?_) (wire_l1_ev l j l[j] hp.1 hp.2 _ _ 0 n b rfl (by omega) h0 (by omega) ?_)
    · simp only [wire_Sum.l0]
      rw [if_pos (by omega), if_pos (by omega), if_pos (by omega), hrd]
      rfl
    · rw [List.drop_zero, wsucc j (by omega)]
      have := ih (j + 1) ((n + wsum b l[j]) / 65536 + (n + wsum b l[j]) % 65536) (flp b l[j]) (by omega) (by omega) (by omega) (by omega)
      rw [List.drop_eq_getElem_cons hlt, List.flatten_cons, wsum_append, ← Int.add_assoc]
      have hb2 : 0 ≤ wsum (flp b l[j]) (l.drop (j + 1)).flatten := (wsum_bounds _ _ (by
        intro c hc
        obtain ⟨p, hp, hc⟩ := List.mem_flatten.1 hc
        exact (hl p (List.mem_of_mem_drop hp)).1 c hc)).1
      rwa [fold_step_add _ _ (by omega) hb2] at this
def sumOf (l : List (List Int)) : Int := fold (wsum false l.flatten)
theorem wire_Sum_ev (l : List (List Int)) (hl : Parts l) (hn : l.length ≤ 140737488351232) : Ev (fun k => wire_Sum.f k l) (sumOf l) := by
  have := wire_l0_ev l hl hn _ 0 0 false rfl (by omega) (by omega) (by omega)
  simpa [sumOf, wire_Sum.f] using this
def atOf (b : Bool) : Int := if b then 1 else 0
theorem a0 : atOf false = 0 := rfl
theorem a1 : atOf true = 1 := rfl
theorem e0 : wrap64 (1 - 1) = atOf false := by rw [w64 _ (by omega) (by omega)]; rfl
theorem e1 : wrap64 (1 - 0) = atOf true := by rw [w64 _ (by omega) (by omega)]; rfl
end Go.Proofs.Ytgifcmbknkjemaa.Own
end
section
namespace Go.Proofs.Ytgifcmbknkjemaa.Own
open Go Go.RowKit Go.Proofs.YtgifcmbknkjemaaW.PrintWords Go.Proofs.YtgifcmbknkjemaaW.PrintLast
set_option linter.unusedVariables false
set_option linter.unusedSimpArgs false
def okB (xs : List Int) : Bool := xs.all fun c => decide (0 ≤ c) && decide (c ≤ 255)
theorem okB_iff {xs : List Int} : okB xs = true ↔ Bytes xs := by
  unfold okB Bytes
  simp [List.all_eq_true]
def okP (l : List (List Int)) : Bool := decide (l.length ≤ 140737488351232) && l.all fun p => okB p && decide (p.length ≤ 140737488353000)
theorem okP_iff {l : List (List Int)} : okP l = true ↔ l.length ≤ 140737488351232 ∧ Parts l := by
  unfold okP Parts
  simp [List.all_eq_true, okB_iff]
def wire_Sum.f (l0 : List (List Int)) : Option Int := if okP l0 = true then some (sumOf l0) else none
theorem wire_Sum.calls (A0 : Option Addr) (c0 : Nat) (l0 : List (List Int)) (r : Int) (w : World) (hr0 : Kd.C (Kd.slice 5 (Kd.int .u8)) w A0 l0.length l0) (hc0 : l0.length ≤ c0) (h : wire_Sum.f l0 = some r) :
    Calls Try.prog 40 #[.slice A0 l0.length c0] w fun e w' => e = .returned (.int .i64 r) ∧ Drawn0 w w' := by
  unfold wire_Sum.f at h
  split at h
  · rename_i hp
    obtain ⟨h1, h2⟩ := okP_iff.1 hp
    obtain rfl := Option.some.inj h
    obtain ⟨k, hk⟩ := (wire_Sum_ev l0 h2 h1).rounds
    exact GW.wire_Sum.calls k A0 c0 l0 _ w hr0 hc0 hk
  · cases h
def wire_Check.f (l0 : List (List Int)) : Option Int := if okP l0 = true then some (65535 - sumOf l0) else none
theorem sumOf_bounds (l : List (List Int)) : 0 ≤ sumOf l ∧ sumOf l ≤ 65535 := fold_bounds _
theorem wire_Check.calls (A0 : Option Addr) (c0 : Nat) (l0 : List (List Int)) (r : Int) (w : World) (hr0 : Kd.C (Kd.slice 5 (Kd.int .u8)) w A0 l0.length l0) (hc0 : l0.length ≤ c0) (h : wire_Check.f l0 = some r) :
    Calls Try.prog 41 #[.slice A0 l0.length c0] w fun e w' => e = .returned (.int .i64 r) ∧ Drawn0 w w' := by
  unfold wire_Check.f at h
  split at h
  · rename_i hp
    obtain ⟨h1, h2⟩ := okP_iff.1 hp
    obtain rfl := Option.some.inj h
    obtain ⟨k, hk⟩ := (wire_Sum_ev l0 h2 h1).rounds
    have hb := sumOf_bounds l0
    refine GW.wire_Check.calls k A0 c0 l0 _ w hr0 hc0 ?_
    simp only [GW.wire_Check.f]
    rw [hk]
    simp only [Option.bind_some]
    rw [w64 _ (by omega) (by omega)]
  · cases h
theorem u16_at (b0 b1 : Int) (h0 : 0 ≤ b0) (h1 : b0 ≤ 255) (h2 : 0 ≤ b1) (h3 : b1 ≤ 255) : Go.bits .or .i64 (wrap64 ((wrap64 b0) * 256)) (wrap64 b1) = 256 * b0 + b1 := by
  rw [w64 b0 (by omega) (by omega), w64 b1 (by omega) (by omega), w64 _ (by omega) (by omega), bits_join .i64 63 (by decide) wraps_i64 8 (b0 * 256) b1 (by omega) (by omega) (by omega) h2 (by omega) (by omega)]
  omega
def okS (l : List Int) : Bool := okB l && decide (l.length ≤ 140737488355000)
theorem okS_iff {l : List Int} : okS l = true ↔ Bytes l ∧ l.length ≤ 140737488355000 := by
  unfold okS
  simp [okB_iff]
theorem rd_byte {l : List Int} (h : Bytes l) (i : Int) : 0 ≤ rd l i ∧ rd l i ≤ 255 := by
  unfold rd
  rw [List.getD_eq_getElem?_getD]
  rcases Nat.lt_or_ge i.toNat l.length with hi | hi
  · rw [List.getElem?_eq_getElem hi]
    exact h _ (List.getElem_mem _)
  · rw [List.getElem?_eq_none hi]
    decide
def u16 (l : List Int) (a : Int) : Int := 256 * rd l a + rd l (a + 1)
def u32 (l : List Int) (a : Int) : Int := 65536 * u16 l a + u16 l (a + 2)
theorem u16_bounds {l : List Int} (h : Bytes l) (a : Int) : 0 ≤ u16 l a ∧ u16 l a ≤ 65535 := by
  have h1 := rd_byte h a
  have h2 := rd_byte h (a + 1)
  unfold u16
  omega
def wire_U16.f (l0 : List Int) (a1 : Int) : Option (Int × Bool) := if okS l0 = true then (if 0 ≤ a1 ∧ a1 + 2 ≤ l0.length then some (u16 l0 a1, true) else some (0, false)) else none
theorem gw_U16 {l : List Int} {a : Int} (hb : Bytes l) (hl : l.length ≤ 140737488355000) : GW.wire_U16.f l a = if 0 ≤ a ∧ a + 2 ≤ l.length then some (u16 l a, true) else some (0, false) := by
  unfold GW.wire_U16.f
  by_cases h0 : a < 0
  · rw [if_pos h0, if_neg (by omega)]
  · rw [if_neg h0, w64 ((l.length : Int) - 2) (by omega) (by omega)]
    by_cases h1 : a > (l.length : Int) - 2
    · rw [if_pos h1, if_neg (by omega)]
    · have b0 := rd_byte hb a
      have b1 := rd_byte hb (a + 1)
      rw [if_neg h1, if_pos (by omega), if_pos (by omega), w64 (a + 1) (by omega) (by omega), if_pos (by omega), if_pos (by omega), if_pos (by omega), u16_at _ _ b0.1 b0.2 b1.1 b1.2]
      rfl
theorem wire_U16.calls (A0 : Option Addr) (c0 : Nat) (l0 : List Int) (a1 : Int) (r1 : Int) (r2 : Bool) (w : World) (hr0 : Kd.C (Kd.int .u8) w A0 l0.length l0) (hc0 : l0.length ≤ c0) (h : wire_U16.f l0 a1 = some (r1, r2)) :
    Calls Try.prog 49 #[.slice A0 l0.length c0, .int .i64 a1] w fun e w' => e = .returned (.tuple #[.int .i64 r1, .bool r2]) ∧ Drawn0 w w' := by
  unfold wire_U16.f at h
  split at h
  · rename_i hs
    obtain ⟨hb, hl⟩ := okS_iff.1 hs
    exact GW.wire_U16.calls A0 c0 l0 a1 r1 r2 w hr0 hc0 (by rw [gw_U16 hb hl]; exact h)
  · cases h
def put16 (l : List Int) (n : Int) : List Int := l ++ [n / 256 % 256, n % 256]
def wire_Put16.f (l0 : List Int) (a1 : Int) : Option (List Int) := if l0.length ≤ 140737488355000 then some (put16 l0 a1) else none
theorem wire_Put16.calls (A0 : Option Addr) (c0 : Nat) (l0 : List Int) (a1 : Int) (r : List Int) (w : World) (hr0 : Kd.C (Kd.int .u8) w A0 l0.length l0) (hc0 : l0.length ≤ c0) (h : wire_Put16.f l0 a1 = some r) :
    Calls Try.prog 44 #[.slice A0 l0.length c0, .int .i64 a1] w fun e w' => ∃ v0_ : Value, e = .returned (v0_) ∧ Kd.R (Kd.int .u8) 5 w' w.heap.size (fun _ => True) v0_ r ∧ Below w.heap.size w w' := by
  unfold wire_Put16.f at h
  split at h
  · refine GW.wire_Put16.calls A0 c0 l0 a1 r w hr0 hc0 ?_
    unfold GW.wire_Put16.f slices_Clone_byte_byte.f
    rw [if_pos (by omega)]
    simp only [Option.bind_some]
    rw [if_pos (by simp; omega)]
    exact h
  · cases h
theorem letters_inj : ∀ {xs ys : List Int}, Bytes xs → Bytes ys → (xs.map fun n => UInt8.ofNat n.toNat) = (ys.map fun n => UInt8.ofNat n.toNat) → xs = ys
  | [], [], _, _, _ => rfl
  | [], _ :: _, _, _, h => by simp at h
  | _ :: _, [], _, _, h => by simp at h
  | x :: xs, y :: ys, hx, hy, h => by
    simp only [List.map_cons, List.cons.injEq] at h
    obtain ⟨h1, h2⟩ := h
    have bx := hx x List.mem_cons_self
    have by' := hy y List.mem_cons_self
    have e : x = y := by
      have := congrArg UInt8.toNat h1
      simp only [UInt8.toNat_ofNat'] at this
      omega
    rw [e, letters_inj (fun c hc => hx c (List.mem_cons_of_mem _ hc)) (fun c hc => hy c (List.mem_cons_of_mem _ hc)) h2]
theorem toList_str (xs : List Int) : (strOfNums xs).toList = xs.map fun n => UInt8.ofNat n.toNat := by
  rw [ByteArray.toList_eq]
  exact strOfNums_data xs
theorem str_eq {xs ys : List Int} (hx : Bytes xs) (hy : Bytes ys) : ((strOfNums xs).toList == (strOfNums ys).toList) = decide (xs = ys) := by
  rw [toList_str, toList_str]
  by_cases h : xs = ys
  · subst h
    simp
  · rw [decide_eq_false h, beq_eq_false_iff_ne]
    exact fun e => h (letters_inj hx hy e)
def stockaderef01_Same.f (l0 l1 : List Int) : Option Bool := if okB l0 = true ∧ okB l1 = true then some (decide (l0 = l1)) else none
theorem stockaderef01_Same.calls (A0 : Option Addr) (c0 : Nat) (l0 : List Int) (A1 : Option Addr) (c1 : Nat) (l1 : List Int) (r : Bool) (w : World) (hr0 : Kd.C (Kd.int .u8) w A0 l0.length l0) (hc0 : l0.length ≤ c0) (hr1 : Kd.C (Kd.int .u8) w A1 l1.length l1) (hc1 : l1.length ≤ c1) (h : stockaderef01_Same.f l0 l1 = some r) :
    Calls Try.prog 46 #[.slice A0 l0.length c0, .slice A1 l1.length c1] w fun e w' => e = .returned (.bool r) ∧ Drawn0 w w' := by
  unfold stockaderef01_Same.f at h
  split at h
  · rename_i hh
    refine GW.stockaderef01_Same.calls A0 c0 l0 A1 c1 l1 r w hr0 hc0 hr1 hc1 ?_
    unfold GW.stockaderef01_Same.f
    rw [str_eq (okB_iff.1 hh.1) (okB_iff.1 hh.2)]
    exact h
  · cases h
end Go.Proofs.Ytgifcmbknkjemaa.Own
end
section
namespace Go.Proofs.Ytgifcmbknkjemaa.Own
open Go Go.RowKit Go.ChangeShapes Go.WideShapes Go.Deep Go.Proofs.YtgifcmbknkjemaaW.PrintWords
set_option linter.unusedVariables false
set_option linter.unusedSimpArgs false
theorem bytes_of_wf {l : List Int} (h : ∀ x ∈ l, (Lit.int .u8 x).wf = true) : Bytes l := fun c hc => by
  have := h c hc
  simp [Lit.wf, IntKind.min, IntKind.max, IntKind.signed, IntKind.bits] at this
  omega
theorem opens27 : Opens 27 (Kd.slice 5 (Kd.int .u8)) (fun l => Bytes l ∧ l.length ≤ 140737488351232) :=
  (Opens.slice Try.underlying27 (Opens.int Try.underlying5) (by kernel_rfl) (B := 1) (by kernel_rfl)).imp fun l h => ⟨bytes_of_wf h.2, by have := h.1; omega⟩
section
variable {H : Type} {enc : TypeId × Value → H} {W : World} {ts : List TypeId} {ds : List (DataW H)} {j : Nat} {v : Value} {dd : DataW H} {p : List MemPlace} {r : Reach} {b0 : Nat}
set_option maxRecDepth 100000 in
theorem par_slice {t e : TypeId} {α : Type} {d : Kd α} {good : List α → Prop} (hu : Try.prog.underlying t = some (.slice e)) (ho : Opens t (Kd.slice e d) good) (hval : Value.okWide Try.prog W r b0 t v)
    (hsz : (DataW.weightsEach Try.prog ts ds).all (· ≤ reachBytes) = true) (ht : ts[j]? = some t) (hd : ds[j]? = some dd) (h : DataW.Trod enc Try.prog W 0 (fun _ => true) true t v dd p) :
    ∃ (A : Option Addr) (c : Nat) (l : List α), v = .slice A l.length c ∧ l.length ≤ c ∧ d.C W A l.length l ∧ good l := by
  obtain ⟨a0, len0, cap0, rfl⟩ := okWide_slice hu hval
  obtain ⟨l, ⟨A, c, hcs, hl, hC⟩, hg⟩ := open_par ho hsz ht hd h
  simp [Value.cells] at hcs
  obtain ⟨rfl, rfl, rfl⟩ := hcs
  exact ⟨_, _, l, rfl, hl, hC, hg⟩
end
end Go.Proofs.Ytgifcmbknkjemaa.Own
end
section
namespace Go.Proofs.Ytgifcmbknkjemaa.LA
open Go.RowKit Go.Proofs.YtgifcmbknkjemaaW.PrintWords Go.Proofs.YtgifcmbknkjemaaW.PrintLast Go.Proofs.YtgifcmbknkjemaaW.PrintMore Go.Proofs.Ytgifcmbknkjemaa.Own
attribute [local go_sem] max2_int min2_int max_two min_two max_three min_three max_four min_four   -- for this text's walks alone
set_option linter.unusedVariables false
set_option linter.unusedSimpArgs false
def errW : Option Int → Value
  | none => .nilIface
  | some c => .iface 0 (.int .i64 c)
theorem errW_none : errW none = .nilIface := rfl
theorem errW_some (c : Int) : errW (some c) = .iface 0 (.int .i64 c) := rfl
theorem info5 : (Try.prog.info? 5).map (fun i => (i.zero, i.size, i.bytes)) = some (some (.int .u8 0), 1, 1) := by kernel_rfl
end Go.Proofs.Ytgifcmbknkjemaa.LA
end
section
namespace Go.Proofs.Ytgifcmbknkjemaa.Own
open Go Go.RowKit Go.Proofs.YtgifcmbknkjemaaW.PrintWords Go.Proofs.YtgifcmbknkjemaaW.PrintLast
set_option linter.unusedVariables false
set_option linter.unusedSimpArgs false
theorem bytes_append {xs ys : List Int} (hx : Bytes xs) (hy : Bytes ys) : Bytes (xs ++ ys) := fun c hc => by
  rcases List.mem_append.1 hc with h | h
  · exact hx c h
  · exact hy c h
theorem bytes_put16 {l : List Int} (h : Bytes l) (n : Int) : Bytes (put16 l n) := bytes_append h (fun c hc => by
  simp at hc
  omega)
end Go.Proofs.Ytgifcmbknkjemaa.Own
end
section
namespace Go.Proofs.Ytgifcmbknkjemaa.Own
open Go Go.RowKit Go.Proofs.YtgifcmbknkjemaaW.PrintWords Go.Proofs.YtgifcmbknkjemaaW.PrintLast
set_option linter.unusedVariables false
set_option linter.unusedSimpArgs false
theorem blk_at {W : World} {o : Obj} {n : Nat} (h : n = W.heap.size) : (W.alloc o).heap[n]? = some o := by
  subst h
  exact heap_alloc_new W o
theorem lit_cells {W : World} {b n : Nat} {t : TypeId} {vs : List Value} {α : Type} {d : Kd α} {xs : List α} (hb : W.heap[b]? = some (.cells vs.toArray t (0, 0))) (hsz : d.sz = 1) (hn : xs.length = n) (hm : n ≤ 9223372036854775807)
    (h : ∀ (j : Nat) (x : α), xs[j]? = some x → ∃ v, vs[j]? = some v ∧ d.K W x [v]) : d.C W (some ⟨b, 0, none⟩) n xs := by
  refine ⟨hn, hm, fun _ => ⟨_, rfl, fun j p hj => ?_⟩⟩
  obtain ⟨v, hv, hK⟩ := h j p hj
  refine ⟨[v], hsz.symm, hK, fun i u hu => ?_⟩
  match i, hu with
  | 0, hu =>
    obtain rfl : v = u := by simpa using hu
    rw [hsz, Nat.mul_one, Nat.add_zero, add_plain]
    refine (blk_cell hb j).trans ?_
    simpa using hv
theorem K_sl {W : World} {e : Nat} {α : Type} {d : Kd α} {A : Option Addr} {n c : Nat} {xs : List α} (h : d.C W A n xs) (hc : n ≤ c) : (Kd.slice e d).K W xs [.slice A n c] := by
  have hn : xs.length = n := h.1
  subst hn
  exact ⟨A, c, rfl, hc, h⟩
theorem parts_one {W : World} {b : Nat} {t : TypeId} {A1 : Option Addr} {n1 c1 : Nat} {x1 : List Int} (hb : W.heap[b]? = some (.cells #[.slice A1 n1 c1] t (0, 0))) (h1 : (Kd.int .u8).C W A1 n1 x1) (l1 : n1 ≤ c1) :
    (Kd.slice 5 (Kd.int .u8)).C W (some ⟨b, 0, none⟩) 1 [x1] :=
  lit_cells (vs := [.slice A1 n1 c1]) hb rfl rfl (by omega) fun j x hj => by
    match j, hj with
    | 0, hj => obtain rfl : x1 = x := by simpa using hj
               exact ⟨_, rfl, K_sl h1 l1⟩
theorem Check_at {A : Option Addr} {c n : Nat} {l : List (List Int)} {w : World} (hr : (Kd.slice 5 (Kd.int .u8)).C w A n l) (hc : n ≤ c) (hp : okP l = true) :
    Calls Try.prog 41 #[.slice A n c] w fun e w' => e = .returned (.int .i64 (65535 - sumOf l)) ∧ Below w.heap.size w w' := by
  have hn : l.length = n := hr.1
  subst hn
  exact (wire_Check.calls A c l _ w hr hc (by unfold wire_Check.f; rw [if_pos hp])).mono fun e w' h => ⟨h.1, h.2.below⟩
theorem block_add (a : Addr) (n : Nat) : (a.add n).block = a.block := by unfold Addr.add; split <;> rfl
theorem F_of_C {w : World} {k : IntKind} {A : Option Addr} {n : Nat} {xs : List Int} (h : (Kd.int k).C w A n xs) : Kd.F (Kd.int k) w (fun _ => True) A n xs := fun W' hW => by
  refine ⟨h.1, h.2.1, fun hn => ?_⟩
  obtain ⟨ad, rfl, hc⟩ := h.2.2 hn
  refine ⟨ad, rfl, fun j p hj => ?_⟩
  obtain ⟨c, hs, hK, hcell⟩ := hc j p hj
  refine ⟨c, hs, hK, fun i u hu => ?_⟩
  have h1 := hcell i u hu
  have hlt : ad.block < w.heap.size := by
    have := World.block_lt_of_cell? w _ h1
    rwa [block_add] at this
  exact (World.cell?_of_block (by rw [block_add]; exact hW _ trivial hlt)).trans h1
theorem V_of_C {w : World} {k : IntKind} {e base : Nat} {A : Option Addr} {c : Nat} {xs : List Int} (h : (Kd.int k).C w A xs.length xs) (hc : xs.length ≤ c) : Kd.V (Kd.int k) e w base (fun _ => True) (.slice A xs.length c) xs := Kd.V_mk hc (F_of_C h)
end Go.Proofs.Ytgifcmbknkjemaa.Own
end
