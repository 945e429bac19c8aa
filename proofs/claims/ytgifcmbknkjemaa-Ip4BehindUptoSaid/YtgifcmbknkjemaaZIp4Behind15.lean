/- What the law Ip4Behind rests on, part 15: contracts of the functions that it calls, and plain lemmas. No condition. -/
import Derived.Test.YtgifcmbknkjemaaZIp4Behind14
section
namespace Go.Proofs.Ytgifcmbknkjemaa.QQ
open Go.RowKit Go.Proofs.YtgifcmbknkjemaaW.PrintWords Go.Proofs.YtgifcmbknkjemaaW.PrintLast Go.Proofs.YtgifcmbknkjemaaW.PrintMore Go.Proofs.Ytgifcmbknkjemaa.Own
attribute [local go_sem] max2_int min2_int max_two min_two max_three min_three max_four min_four   -- for this text's walks alone
set_option linter.unusedVariables false
set_option linter.unusedSimpArgs false
mutual
def ip4_options.l0 : Nat → List Int → Option (Int)
  | 0, _ => none
  | k + 1, x0 => if (x0.length : Int) > 0 then (if 0 < (x0.length : Int) then (ip4_options.j1 k x0 ((rd x0 0) != 0)) else (none)) else (ip4_options.j1 k x0 false)
def ip4_options.j1 : Nat → List Int → Bool → Option (Int)
  | 0, _, _ => none
  | k + 1, x0, x12 => if x12 = true then (if 0 < (x0.length : Int) then (if (rd x0 0) = 1 then (if 1 ≤ (x0.length : Int) then (ip4_options.l0 k (x0.drop 1)) else (none)) else (if (rd x0 0) = 131 then (ip4_options.j2 k x0 ((rd x0 0) == 131)) else (ip4_options.j2 k x0 ((rd x0 0) == 137)))) else (none)) else (some 0)
def ip4_options.j2 : Nat → List Int → Bool → Option (Int)
  | 0, _, _ => none
  | k + 1, x0, x40 => if x40 = true then (some 8) else (if (x0.length : Int) < 2 then (some 7) else (if 1 < (x0.length : Int) then (if (rd x0 1) < 2 then (some 7) else (if (wrap64 (rd x0 1)) > (x0.length : Int) then (some 7) else (if 0 ≤ (wrap64 (rd x0 1)) then (if (wrap64 (rd x0 1)) ≤ (x0.length : Int) then (ip4_options.l0 k (x0.drop ((wrap64 (rd x0 1)) : Int).toNat)) else (none)) else (none)))) else (none)))
end
def ip4_options.f (k : Nat) (l0 : List Int) : Option (Int) := ip4_options.l0 k l0
theorem ip4_options.mono_l : ∀ k, (∀ y0, LeO (ip4_options.l0 k y0) (ip4_options.l0 (k + 1) y0)) ∧ (∀ y0 y1, LeO (ip4_options.j1 k y0 y1) (ip4_options.j1 (k + 1) y0 y1)) ∧ (∀ y0 y1, LeO (ip4_options.j2 k y0 y1) (ip4_options.j2 (k + 1) y0 y1))
  | 0 => ⟨fun _ r h => by simp [ip4_options.l0] at h, fun _ _ r h => by simp [ip4_options.j1] at h, fun _ _ r h => by simp [ip4_options.j2] at h⟩
  | k + 1 => by
    obtain ⟨ih0, ih1, ih2⟩ := ip4_options.mono_l k
    refine ⟨?_, ?_, ?_⟩
    · intro y0
      unfold ip4_options.l0
      repeat' first
      | (with_reducible exact ih0 _)
      | (with_reducible exact ih1 _ _)
      | (with_reducible exact ih2 _ _)
      | (with_reducible exact LeO.refl _)
      | (with_reducible exact LeO.none _)
      | (with_reducible refine LeO.ite ?_ ?_)
      | (with_reducible refine LeO.bind ?_ (fun _ => ?_))
      | exact ih0 _
      | exact ih1 _ _
      | exact ih2 _ _
      | exact LeO.none _
      | refine LeO.ite ?_ ?_
      | refine LeO.bind ?_ (fun _ => ?_)
    · intro y0 y1
      unfold ip4_options.j1
      repeat' first
      | (with_reducible exact ih0 _)
      | (with_reducible exact ih1 _ _)
      | (with_reducible exact ih2 _ _)
      | (with_reducible exact LeO.refl _)
      | (with_reducible exact LeO.none _)
      | (with_reducible refine LeO.ite ?_ ?_)
      | (with_reducible refine LeO.bind ?_ (fun _ => ?_))
      | exact ih0 _
      | exact ih1 _ _
      | exact ih2 _ _
      | exact LeO.none _
      | refine LeO.ite ?_ ?_
      | refine LeO.bind ?_ (fun _ => ?_)
    · intro y0 y1
      unfold ip4_options.j2
      repeat' first
      | (with_reducible exact ih0 _)
      | (with_reducible exact ih1 _ _)
      | (with_reducible exact ih2 _ _)
      | (with_reducible exact LeO.refl _)
      | (with_reducible exact LeO.none _)
      | (with_reducible refine LeO.ite ?_ ?_)
      | (with_reducible refine LeO.bind ?_ (fun _ => ?_))
      | exact ih0 _
      | exact ih1 _ _
      | exact ih2 _ _
      | exact LeO.none _
      | refine LeO.ite ?_ ?_
      | refine LeO.bind ?_ (fun _ => ?_)
theorem ip4_options.mono : ∀ a0 k, LeO (ip4_options.f k a0) (ip4_options.f (k + 1) a0) := by
  intro a0 k
  obtain ⟨ih0, ih1, ih2⟩ := ip4_options.mono_l k
  unfold ip4_options.f
  repeat' first
      | (with_reducible exact ih0 _)
      | (with_reducible exact ih1 _ _)
      | (with_reducible exact ih2 _ _)
      | (with_reducible exact LeO.refl _)
      | (with_reducible exact LeO.none _)
      | (with_reducible refine LeO.ite ?_ ?_)
      | (with_reducible refine LeO.bind ?_ (fun _ => ?_))
      | exact ih0 _
      | exact ih1 _ _
      | exact ih2 _ _
      | exact LeO.none _
      | refine LeO.ite ?_ ?_
      | refine LeO.bind ?_ (fun _ => ?_)
set_option maxHeartbeats 8000000 in
set_option maxRecDepth 100000 in
theorem ip4_options.calls (k : Nat) (P0_ : Nat → Prop) (A0 : Option Addr) (c0 : Nat) (l0 : List Int) (r : Int) (w : World) (hs0 : Kd.V (Kd.int .u8) 5 w w.heap.size (fun k_ => P0_ k_) (.slice A0 l0.length c0) l0) (h : ip4_options.f k l0 = some r) :
    Calls Try.prog 113 #[.slice A0 l0.length c0] w fun e w' => e = .returned (.int .i64 r) ∧ Below w.heap.size w w' := by
  have HO0 := Aside0.mk (show Kd.V (Kd.int .u8) 5 w w.heap.size (fun k_ => (P0_ k_ ∨ w.heap.size ≤ k_)) (.slice A0 l0.length c0) l0 from Kd.V_mono hs0 (fun k_ hk => .inl hk))
  have HB := Aside0.mk (Below.refl w.heap.size w)
  have H : (ip4_options.l0 k l0) = some r := h
  clear h
  have H' := Aside0.mk H
  clear H
  go_enter Try.func113, Try.ntmps113
  go_wp2
  go_loopg [0] k (fun kq v0 w' => ∃ (x0_1 : List Int), Aside0 (ip4_options.l0 kq x0_1 = some r) ∧ Aside0 (kq ≤ k) ∧ Aside0 (Kd.V (Kd.int .u8) 5 w' w.heap.size (fun k_ => (P0_ k_ ∨ w.heap.size ≤ k_)) v0 x0_1) ∧ Aside0 (Below w.heap.size w w'))
  case atStart => exact ⟨(l0), H', ⟨Nat.le_refl _⟩, ⟨by (with_reducible repeat (first | apply Kd.V_alloc | apply Kd.V_drewN | apply Kd.V_drew)); exact HO0.out⟩, ⟨by repeat (first | (with_reducible first | exact HB.out | apply below_alloc | apply pw_below_drewN | apply below_drew1) | exact HB.out)⟩⟩
  case round =>
    clear H'
    try clear c1
    obtain ⟨x0_1, HA, HK1, HO_0, HB⟩ := hrel
    cases gk with
    | zero => exact absurd HA.out (by simp [ip4_options.l0])
    | succ k1 =>
      have H := HA.out
      clear HA
      simp only [ip4_options.l0] at H
      have HC2 := Aside0.mk H
      clear H
      go_upto_region 1 with (fail)
      go_cut [12] (fun v12 wc => ∃ (kq : Nat) (x12_1 : Bool), v12 = .bool x12_1 ∧ Aside0 (ip4_options.j1 kq x0_1 x12_1 = some r) ∧ Aside0 (kq ≤ k1) ∧ Aside0 (Kd.V (Kd.int .u8) 5 wc w.heap.size (fun k_ => (P0_ k_ ∨ w.heap.size ≤ k_)) u0 x0_1) ∧ Aside0 (Below w.heap.size w wc))
      case first =>
        have H := HC2.out
        clear HC2
        by_cases c3 : (x0_1.length : Int) > 0
        · rw [if_pos c3] at H
          have c3b0 : decide (0 < (x0_1.length : Int)) = true := decide_eq_true c3
          have c3b1 : decide (0 < x0_1.length) = true := decide_eq_true (by omega)
          clear c3
          (first | rw [c3b0] | (simp only [i64_w, i32_w]; rw [c3b0]) | skip)
          by_cases c4 : 0 < (x0_1.length : Int)
          · rw [if_pos c4] at H
            have c4b0 : decide (0 < (x0_1.length : Int)) = true := decide_eq_true c4
            have c4b1 : decide (0 < x0_1.length) = true := decide_eq_true (by omega)
            clear c4
            have H' := Aside0.mk H
            clear H
            obtain ⟨Ao5, co5, eo5⟩ := Kd.V_slice HO_0.out
            subst eo5
            have p354 : 0 ≤ (0 : Int) := (by omega)
            have q354 : 0 < (x0_1.length : Int) := of_decide_eq_true (by first | (with_reducible assumption) | assumption)
            obtain ⟨ad354, e354, hx354_0⟩ := Kd.at_int (Kd.V_reads' HO_0.out).2.2 0 p354 q354
            cases e354
            have qi354 : (0 < x0_1.length) = True := eq_true (by omega)
            (try rw [show ((0 : Int)).toNat = 0 from rfl] at hx354_0)
            (try rw [Addr.add_zero'] at hx354_0)
            replace p354 := eq_true p354
            replace q354 := eq_true q354
            go_wp2
            go_meet
            case rel => exact ⟨_, (((rd x0_1 0) != 0)), (by first | rfl | (simp; done) | (simp [*]; done)), H', ⟨by have := HK1.out; first | omega | exact Nat.le_refl _⟩, ⟨by (with_reducible repeat (first | apply Kd.V_alloc | apply Kd.V_drewN | apply Kd.V_drew)); exact HO_0.out⟩, ⟨by repeat (first | (with_reducible first | exact HB.out | apply below_alloc | apply pw_below_drewN | apply below_drew1) | exact HB.out)⟩⟩
          · rw [if_neg c4] at H
            exact absurd H (by simp)
        · rw [if_neg c3] at H
          have c3b0 : decide (0 < (x0_1.length : Int)) = false := decide_eq_false c3
          have c3b1 : decide (0 < x0_1.length) = false := decide_eq_false (by omega)
          clear c3
          (first | rw [c3b0] | (simp only [i64_w, i32_w]; rw [c3b0]) | skip)
          have H' := Aside0.mk H
          clear H
          obtain ⟨Ao6, co6, eo6⟩ := Kd.V_slice HO_0.out
          subst eo6
          go_wp2
          go_meet
          case rel => exact ⟨_, (false), (by first | rfl | (simp; done) | (simp [*]; done)), H', ⟨by have := HK1.out; first | omega | exact Nat.le_refl _⟩, ⟨by (with_reducible repeat (first | apply Kd.V_alloc | apply Kd.V_drewN | apply Kd.V_drew)); exact HO_0.out⟩, ⟨by repeat (first | (with_reducible first | exact HB.out | apply below_alloc | apply pw_below_drewN | apply below_drew1) | exact HB.out)⟩⟩
      case rest =>
        clear HC2
        try clear c1
        try clear p2
        try clear c3
        try clear c3b0
        try clear c3b1
        try clear p3
        try clear q3
        try clear hx3
        try clear qi3
        try clear c4
        try clear c4b0
        try clear c4b1
        try clear p4
        try clear hx354_0
        try clear p354
        try clear q354
        obtain ⟨kq, x12_1, rfl, HA, HJ1, HO_0, HB⟩ := hcut
        cases kq with
        | zero => exact absurd HA.out (by simp [ip4_options.j1])
        | succ kj1 =>
          have H := HA.out
          clear HA
          simp only [ip4_options.j1] at H
          by_cases c7 : x12_1 = true
          · subst c7
            have H1 : (if 0 < (x0_1.length : Int) then (if (rd x0_1 0) = 1 then (if 1 ≤ (x0_1.length : Int) then (ip4_options.l0 kj1 (x0_1.drop 1)) else (none)) else (if (rd x0_1 0) = 131 then (ip4_options.j2 kj1 x0_1 ((rd x0_1 0) == 131)) else (ip4_options.j2 kj1 x0_1 ((rd x0_1 0) == 137)))) else (none)) = some r := by rw [if_pos rfl] at H; exact H
            clear H
            have H := H1
            clear H1
            by_cases c8 : 0 < (x0_1.length : Int)
            · rw [if_pos c8] at H
              have c8b0 : decide (0 < (x0_1.length : Int)) = true := decide_eq_true c8
              have c8b1 : decide (0 < x0_1.length) = true := decide_eq_true (by omega)
              clear c8
              by_cases c9 : (rd x0_1 0) = 1
              · rw [if_pos c9] at H
                have c9b0 : ((rd x0_1 0) == 1) = true := beq_iff_eq.mpr c9
                have c9b1 : ((rd x0_1 0) != 1) = false := bne_eq_false_iff_eq.mpr c9
                clear c9
                by_cases c10 : 1 ≤ (x0_1.length : Int)
                · rw [if_pos c10] at H
                  have c10b0 := eq_true c10
                  have c10b1 : decide (1 ≤ (x0_1.length : Int)) = true := decide_eq_true c10
                  clear c10
                  obtain ⟨y356, hy356⟩ : ∃ y_ : List Int, y_ = (x0_1.drop 1) := ⟨_, rfl⟩
                  replace H : (ip4_options.l0 kj1 y356) = some r := by first | (rw [hy356]; with_reducible exact H) | (have H2_ := (Option.bind_some _ _).symm.trans H; rw [hy356]; with_reducible exact H2_) | (have H2_ := (Option.bind_some _ _).symm.trans H; with_reducible exact H2_) | with_reducible exact H | (rw [hy356]; exact H) | exact H
                  have Ny356 := Aside0.mk hy356
                  clear hy356
                  have H' := Aside0.mk H
                  clear H
                  obtain ⟨Ao11, co11, eo11⟩ := Kd.V_slice HO_0.out
                  subst eo11
                  have p355 : 0 ≤ (0 : Int) := (by omega)
                  have q355 : 0 < (x0_1.length : Int) := of_decide_eq_true (by first | (with_reducible assumption) | assumption)
                  obtain ⟨ad355, e355, hx355_0⟩ := Kd.at_int (Kd.V_reads' HO_0.out).2.2 0 p355 q355
                  cases e355
                  have qi355 : (0 < x0_1.length) = True := eq_true (by omega)
                  (try rw [show ((0 : Int)).toNat = 0 from rfl] at hx355_0)
                  (try rw [Addr.add_zero'] at hx355_0)
                  replace p355 := eq_true p355
                  replace q355 := eq_true q355
                  have q12 : (1 : Int) ≤ ((x0_1.length : Int) : Int) := of_decide_eq_true (by first | (with_reducible assumption) | assumption)
                  obtain ⟨i012, hi012, _, hsz12, _⟩ := info_parts info5
                  have hroom12 : x0_1.length ≤ co11 := (Kd.V_reads' HO_0.out).2.1
                  have hC12 : Kd.F (Kd.int .u8) _ _ (some ad355) x0_1.length x0_1 := (Kd.V_at (base := w.heap.size) HO_0.out).2.2
                  have hcut12 := cut_from (P := Try.prog) 27 5 .i64 Try.underlying27 hi012 1 hsz12 (some ad355) x0_1.length co11 1 (by omega) q12
                  have hr12 := Kd.F_cut (m := (1 : Int).toNat) (c := co11) hC12 (by omega) hroom12
                  obtain ⟨A12, hA12⟩ : ∃ A1, A1 = (if co11 = (1 : Int).toNat then (some ad355) else ((some ad355) : Option Addr).map (·.add ((1 : Int).toNat * 1))) := ⟨_, rfl⟩
                  obtain ⟨c12, hc12⟩ : ∃ c1, c1 = co11 - (1 : Int).toNat := ⟨_, rfl⟩
                  have hy12 : y356.length = x0_1.length - (1 : Int).toNat := (by rw [Ny356.out, List.length_drop] <;> omega)
                  rw [show (x0_1).drop (1 : Int).toNat = y356 from Ny356.out.symm] at hr12
                  replace hr12 : Kd.F (Kd.int .u8) _ _ A12 y356.length y356 := (by rw [hA12]; exact hr12)
                  rw [← hy12, ← hA12, ← hc12] at hcut12
                  have HO360 := Aside0.mk (show Kd.V (Kd.int .u8) 5 _ w.heap.size _ (.slice A12 y356.length c12) y356 from Kd.V_mk (by rw [hy12, hc12]; exact Nat.sub_le_sub_right hroom12 _) hr12)
                  have HC360 := Aside0.mk (show y356.length ≤ c12 from by rw [hy12, hc12]; exact Nat.sub_le_sub_right hroom12 _)
                  clear hr12 hC12 hroom12 hi012 hsz12 hc12
                  have KY12 := Aside0.mk hy12
                  have KA12 := Aside0.mk hA12
                  clear hy12 hA12
                  replace q12 := eq_true q12
                  go_wp2
                  go_roundg kj1
                  case measure => have := HK1.out; have := HJ1.out; omega
                  case rel => exact ⟨(y356), H', ⟨by have := HK1.out; have := HJ1.out; omega⟩, ⟨by (with_reducible repeat (first | apply Kd.V_alloc | apply Kd.V_drewN | apply Kd.V_drew)); exact HO360.out⟩, ⟨by repeat (first | (with_reducible first | exact HB.out | apply below_alloc | apply pw_below_drewN | apply below_drew1) | exact HB.out)⟩⟩
                · rw [if_neg c10] at H
                  exact absurd H (by simp)
              · rw [if_neg c9] at H
                have c9b0 : ((rd x0_1 0) == 1) = false := beq_eq_false_iff_ne.mpr c9
                have c9b1 : ((rd x0_1 0) != 1) = true := bne_iff_ne.mpr c9
                have HC13 := Aside0.mk H
                clear H
                obtain ⟨Ao14, co14, eo14⟩ := Kd.V_slice HO_0.out
                subst eo14
                have p355 : 0 ≤ (0 : Int) := (by omega)
                have q355 : 0 < (x0_1.length : Int) := of_decide_eq_true (by first | (with_reducible assumption) | assumption)
                obtain ⟨ad355, e355, hx355_0⟩ := Kd.at_int (Kd.V_reads' HO_0.out).2.2 0 p355 q355
                cases e355
                have qi355 : (0 < x0_1.length) = True := eq_true (by omega)
                (try rw [show ((0 : Int)).toNat = 0 from rfl] at hx355_0)
                (try rw [Addr.add_zero'] at hx355_0)
                replace p355 := eq_true p355
                replace q355 := eq_true q355
                go_upto_if 40 with (fail)
                go_cut [40] (fun v40 wc => ∃ (kq : Nat) (x40_12 : Bool), v40 = .bool x40_12 ∧ Aside0 (ip4_options.j2 kq x0_1 x40_12 = some r) ∧ Aside0 (kq ≤ kj1) ∧ Aside0 (Kd.V (Kd.int .u8) 5 wc w.heap.size (fun k_ => (P0_ k_ ∨ w.heap.size ≤ k_)) (.slice (some ad355) x0_1.length co14) x0_1) ∧ Aside0 (Below w.heap.size w wc))
                case first =>
                  have H := HC13.out
                  clear HC13
                  by_cases c15 : (rd x0_1 0) = 131
                  · rw [if_pos c15] at H
                    have c15b0 : ((rd x0_1 0) == 131) = true := beq_iff_eq.mpr c15
                    have c15b1 : ((rd x0_1 0) != 131) = false := bne_eq_false_iff_eq.mpr c15
                    clear c15
                    (first | rw [c15b0] | (simp only [i64_w, i32_w]; rw [c15b0]) | skip)
                    have H' := Aside0.mk H
                    clear H
                    go_wp2
                    go_meet
                    case rel => exact ⟨_, (((rd x0_1 0) == 131)), (by first | rfl | (simp; done) | (simp [*]; done)), H', ⟨by have := HK1.out; have := HJ1.out; first | omega | exact Nat.le_refl _⟩, ⟨by (with_reducible repeat (first | apply Kd.V_alloc | apply Kd.V_drewN | apply Kd.V_drew)); exact HO_0.out⟩, ⟨by repeat (first | (with_reducible first | exact HB.out | apply below_alloc | apply pw_below_drewN | apply below_drew1) | exact HB.out)⟩⟩
                  · rw [if_neg c15] at H
                    have c15b0 : ((rd x0_1 0) == 131) = false := beq_eq_false_iff_ne.mpr c15
                    have c15b1 : ((rd x0_1 0) != 131) = true := bne_iff_ne.mpr c15
                    (first | rw [c15b0] | (simp only [i64_w, i32_w]; rw [c15b0]) | skip)
                    have H' := Aside0.mk H
                    clear H
                    go_wp2
                    go_meet
                    case rel => exact ⟨_, (((rd x0_1 0) == 137)), (by first | rfl | (simp; done) | (simp [*]; done)), H', ⟨by have := HK1.out; have := HJ1.out; first | omega | exact Nat.le_refl _⟩, ⟨by (with_reducible repeat (first | apply Kd.V_alloc | apply Kd.V_drewN | apply Kd.V_drew)); exact HO_0.out⟩, ⟨by repeat (first | (with_reducible first | exact HB.out | apply below_alloc | apply pw_below_drewN | apply below_drew1) | exact HB.out)⟩⟩
                case rest =>
                  clear HC13
                  try clear c1
                  try clear q1
                  try clear p2
                  try clear c3
                  try clear c3b0
                  try clear c3b1
                  try clear p3
                  try clear q3
                  try clear hx3
                  try clear qi3
                  try clear c4
                  try clear c4b0
                  try clear c4b1
                  try clear p4
                  try clear c7
                  try clear c8
                  try clear c8b0
                  try clear c8b1
                  try clear c9
                  try clear c9b0
                  try clear c9b1
                  try clear c10
                  try clear c10b0
                  try clear c10b1
                  try clear c11
                  try clear c12
                  try clear q12
                  try clear c15
                  try clear c15b0
                  try clear c15b1
                  try clear hx354_0
                  try clear hx355_0
                  try clear p2
                  try clear p3
                  try clear p354
                  try clear p355
                  try clear p4
                  try clear q12
                  try clear q3
                  try clear q354
                  try clear q355
                  obtain ⟨kq, x40_12, rfl, HA, HJ12, HO_0, HB⟩ := hcut
                  cases kq with
                  | zero => exact absurd HA.out (by simp [ip4_options.j2])
                  | succ kj12 =>
                    have H := HA.out
                    clear HA
                    simp only [ip4_options.j2] at H
                    by_cases c16 : x40_12 = true
                    · subst c16
                      have H1 : (some 8) = some r := by rw [if_pos rfl] at H; exact H
                      clear H
                      have H := H1
                      clear H1
                      obtain rfl := Option.some.inj H
                      go_wp2
                      go_ret
                      exact ⟨by first | rfl | (simp [errW_none, errW_some] <;> rfl) | (simp [*, errW_none, errW_some] <;> rfl), by repeat (first | (with_reducible first | exact HB.out | apply below_alloc | apply pw_below_drewN | apply below_drew1) | exact HB.out)⟩
                    · replace c16 := Bool.eq_false_iff.mpr c16
                      subst c16
                      have H1 : (if (x0_1.length : Int) < 2 then (some 7) else (if 1 < (x0_1.length : Int) then (if (rd x0_1 1) < 2 then (some 7) else (if (wrap64 (rd x0_1 1)) > (x0_1.length : Int) then (some 7) else (if 0 ≤ (wrap64 (rd x0_1 1)) then (if (wrap64 (rd x0_1 1)) ≤ (x0_1.length : Int) then (ip4_options.l0 kj12 (x0_1.drop ((wrap64 (rd x0_1 1)) : Int).toNat)) else (none)) else (none)))) else (none))) = some r := by rw [if_neg (show ¬ (false = true) by decide)] at H; exact H
                      clear H
                      have H := H1
                      clear H1
                      by_cases c17 : (x0_1.length : Int) < 2
                      · rw [if_pos c17] at H
                        have c17b0 : decide ((x0_1.length : Int) < 2) = true := decide_eq_true c17
                        have c17b1 : decide (x0_1.length < 2) = true := decide_eq_true (by omega)
                        clear c17
                        obtain rfl := Option.some.inj H
                        go_wp2
                        go_ret
                        exact ⟨by first | rfl | (simp [errW_none, errW_some] <;> rfl) | (simp [*, errW_none, errW_some] <;> rfl), by repeat (first | (with_reducible first | exact HB.out | apply below_alloc | apply pw_below_drewN | apply below_drew1) | exact HB.out)⟩
                      · rw [if_neg c17] at H
                        have c17b0 : decide ((x0_1.length : Int) < 2) = false := decide_eq_false c17
                        have c17b1 : decide (x0_1.length < 2) = false := decide_eq_false (by omega)
                        clear c17
                        by_cases c18 : 1 < (x0_1.length : Int)
                        · rw [if_pos c18] at H
                          have c18b0 : decide (1 < (x0_1.length : Int)) = true := decide_eq_true c18
                          have c18b1 : decide (1 < x0_1.length) = true := decide_eq_true (by omega)
                          clear c18
                          by_cases c19 : (rd x0_1 1) < 2
                          · rw [if_pos c19] at H
                            have c19b0 : decide ((rd x0_1 1) < 2) = true := decide_eq_true c19
                            clear c19
                            obtain rfl := Option.some.inj H
                            have p361 : 0 ≤ (1 : Int) := (by omega)
                            have q361 : 1 < (x0_1.length : Int) := of_decide_eq_true (by first | (with_reducible assumption) | assumption)
                            obtain ⟨ad361, e361, hx361_0⟩ := Kd.at_int (Kd.V_reads' HO_0.out).2.2 1 p361 q361
                            obtain rfl : ad355 = ad361 := (by injection e361)
                            (try simp only [show (1 : Int).toNat = 1 from rfl, Nat.reduceMul, Nat.reduceEqDiff, Go.Addr.add, ↓reduceIte] at hx361_0)
                            have qi361 : (1 < x0_1.length) = True := eq_true (by omega)
                            (try rw [show ((1 : Int)).toNat = 1 from rfl] at hx361_0)
                            replace p361 := eq_true p361
                            replace q361 := eq_true q361
                            go_wp2
                            go_ret
                            exact ⟨by first | rfl | (simp [errW_none, errW_some] <;> rfl) | (simp [*, errW_none, errW_some] <;> rfl), by repeat (first | (with_reducible first | exact HB.out | apply below_alloc | apply pw_below_drewN | apply below_drew1) | exact HB.out)⟩
                          · rw [if_neg c19] at H
                            have c19b0 : decide ((rd x0_1 1) < 2) = false := decide_eq_false c19
                            clear c19
                            by_cases c20 : (wrap64 (rd x0_1 1)) > (x0_1.length : Int)
                            · rw [if_pos c20] at H
                              have c20b0 : decide ((x0_1.length : Int) < (wrap64 (rd x0_1 1))) = true := decide_eq_true c20
                              clear c20
                              obtain rfl := Option.some.inj H
                              have p361 : 0 ≤ (1 : Int) := (by omega)
                              have q361 : 1 < (x0_1.length : Int) := of_decide_eq_true (by first | (with_reducible assumption) | assumption)
                              obtain ⟨ad361, e361, hx361_0⟩ := Kd.at_int (Kd.V_reads' HO_0.out).2.2 1 p361 q361
                              obtain rfl : ad355 = ad361 := (by injection e361)
                              (try simp only [show (1 : Int).toNat = 1 from rfl, Nat.reduceMul, Nat.reduceEqDiff, Go.Addr.add, ↓reduceIte] at hx361_0)
                              have qi361 : (1 < x0_1.length) = True := eq_true (by omega)
                              (try rw [show ((1 : Int)).toNat = 1 from rfl] at hx361_0)
                              replace p361 := eq_true p361
                              replace q361 := eq_true q361
                              have p362 : 0 ≤ (1 : Int) := (by omega)
                              have q362 : 1 < (x0_1.length : Int) := of_decide_eq_true (by first | (with_reducible assumption) | assumption)
                              obtain ⟨ad362, e362, hx362_0⟩ := Kd.at_int (Kd.V_reads' HO_0.out).2.2 1 p362 q362
                              obtain rfl : ad355 = ad362 := (by injection e362)
                              (try simp only [show (1 : Int).toNat = 1 from rfl, Nat.reduceMul, Nat.reduceEqDiff, Go.Addr.add, ↓reduceIte] at hx362_0)
                              have qi362 : (1 < x0_1.length) = True := eq_true (by omega)
                              (try rw [show ((1 : Int)).toNat = 1 from rfl] at hx362_0)
                              replace p362 := eq_true p362
                              replace q362 := eq_true q362
                              go_wp2
                              go_ret
                              exact ⟨by first | rfl | (simp [errW_none, errW_some] <;> rfl) | (simp [*, errW_none, errW_some] <;> rfl), by repeat (first | (with_reducible first | exact HB.out | apply below_alloc | apply pw_below_drewN | apply below_drew1) | exact HB.out)⟩
                            · rw [if_neg c20] at H
                              have c20b0 : decide ((x0_1.length : Int) < (wrap64 (rd x0_1 1))) = false := decide_eq_false c20
                              clear c20
                              obtain ⟨ji21, hji21⟩ : ∃ j_ : Int, (wrap64 (rd x0_1 1)) = j_ := ⟨_, rfl⟩
                              replace H : (if 0 ≤ (ji21) then (if (ji21) ≤ (x0_1.length : Int) then (ip4_options.l0 kj12 (x0_1.drop ((ji21) : Int).toNat)) else (none)) else (none)) = some r := by first | (rw [hji21] at H; exact H) | (simp only [hji21] at H ⊢; exact H)
                              (try rw [hji21] at c20b0)
                              have hji21w : (IntKind.i64.wrap (rd x0_1 1)) = ji21 := (i64_w _).trans hji21
                              by_cases c22 : 0 ≤ (ji21)
                              · rw [if_pos c22] at H
                                have c22b0 := eq_true c22
                                have c22b1 : decide (0 ≤ (ji21)) = true := decide_eq_true c22
                                clear c22
                                by_cases c23 : (ji21) ≤ (x0_1.length : Int)
                                · rw [if_pos c23] at H
                                  have c23b0 := eq_true c23
                                  have c23b1 : decide ((ji21) ≤ (x0_1.length : Int)) = true := decide_eq_true c23
                                  clear c23
                                  obtain ⟨y364, hy364⟩ : ∃ y_ : List Int, y_ = (x0_1.drop ((ji21) : Int).toNat) := ⟨_, rfl⟩
                                  replace H : (ip4_options.l0 kj12 y364) = some r := by first | (rw [hy364]; with_reducible exact H) | (have H2_ := (Option.bind_some _ _).symm.trans H; rw [hy364]; with_reducible exact H2_) | (have H2_ := (Option.bind_some _ _).symm.trans H; with_reducible exact H2_) | with_reducible exact H | (rw [hy364]; exact H) | exact H
                                  have Ny364 := Aside0.mk hy364
                                  clear hy364
                                  have H' := Aside0.mk H
                                  clear H
                                  have p361 : 0 ≤ (1 : Int) := (by omega)
                                  have q361 : 1 < (x0_1.length : Int) := of_decide_eq_true (by first | (with_reducible assumption) | assumption)
                                  obtain ⟨ad361, e361, hx361_0⟩ := Kd.at_int (Kd.V_reads' HO_0.out).2.2 1 p361 q361
                                  obtain rfl : ad355 = ad361 := (by injection e361)
                                  (try simp only [show (1 : Int).toNat = 1 from rfl, Nat.reduceMul, Nat.reduceEqDiff, Go.Addr.add, ↓reduceIte] at hx361_0)
                                  have qi361 : (1 < x0_1.length) = True := eq_true (by omega)
                                  (try rw [show ((1 : Int)).toNat = 1 from rfl] at hx361_0)
                                  replace p361 := eq_true p361
                                  replace q361 := eq_true q361
                                  have p362 : 0 ≤ (1 : Int) := (by omega)
                                  have q362 : 1 < (x0_1.length : Int) := of_decide_eq_true (by first | (with_reducible assumption) | assumption)
                                  obtain ⟨ad362, e362, hx362_0⟩ := Kd.at_int (Kd.V_reads' HO_0.out).2.2 1 p362 q362
                                  obtain rfl : ad355 = ad362 := (by injection e362)
                                  (try simp only [show (1 : Int).toNat = 1 from rfl, Nat.reduceMul, Nat.reduceEqDiff, Go.Addr.add, ↓reduceIte] at hx362_0)
                                  have qi362 : (1 < x0_1.length) = True := eq_true (by omega)
                                  (try rw [show ((1 : Int)).toNat = 1 from rfl] at hx362_0)
                                  replace p362 := eq_true p362
                                  replace q362 := eq_true q362
                                  have p363 : 0 ≤ (1 : Int) := (by omega)
                                  have q363 : 1 < (x0_1.length : Int) := of_decide_eq_true (by first | (with_reducible assumption) | assumption)
                                  obtain ⟨ad363, e363, hx363_0⟩ := Kd.at_int (Kd.V_reads' HO_0.out).2.2 1 p363 q363
                                  obtain rfl : ad355 = ad363 := (by injection e363)
                                  (try simp only [show (1 : Int).toNat = 1 from rfl, Nat.reduceMul, Nat.reduceEqDiff, Go.Addr.add, ↓reduceIte] at hx363_0)
                                  have qi363 : (1 < x0_1.length) = True := eq_true (by omega)
                                  (try rw [show ((1 : Int)).toNat = 1 from rfl] at hx363_0)
                                  replace p363 := eq_true p363
                                  replace q363 := eq_true q363
                                  have q24 : ((ji21) : Int) ≤ ((x0_1.length : Int) : Int) := of_decide_eq_true (by first | (with_reducible assumption) | assumption)
                                  obtain ⟨i024, hi024, _, hsz24, _⟩ := info_parts info5
                                  have hroom24 : x0_1.length ≤ co14 := (Kd.V_reads' HO_0.out).2.1
                                  have hC24 : Kd.F (Kd.int .u8) _ _ (some ad355) x0_1.length x0_1 := (Kd.V_at (base := w.heap.size) HO_0.out).2.2
                                  have q024 : (0 : Int) ≤ ((ji21) : Int) := of_decide_eq_true (by first | (with_reducible assumption) | assumption)
                                  have hcut24 := cut_from (P := Try.prog) 27 5 .i64 Try.underlying27 hi024 1 hsz24 (some ad355) x0_1.length co14 (ji21) q024 q24
                                  have hr24 := Kd.F_cut (m := ((ji21) : Int).toNat) (c := co14) hC24 (by omega) hroom24
                                  obtain ⟨A24, hA24⟩ : ∃ A1, A1 = (if co14 = ((ji21) : Int).toNat then (some ad355) else ((some ad355) : Option Addr).map (·.add (((ji21) : Int).toNat * 1))) := ⟨_, rfl⟩
                                  obtain ⟨c24, hc24⟩ : ∃ c1, c1 = co14 - ((ji21) : Int).toNat := ⟨_, rfl⟩
                                  have hy24 : y364.length = x0_1.length - ((ji21) : Int).toNat := (by rw [Ny364.out, List.length_drop] <;> omega)
                                  rw [show (x0_1).drop ((ji21) : Int).toNat = y364 from Ny364.out.symm] at hr24
                                  replace hr24 : Kd.F (Kd.int .u8) _ _ A24 y364.length y364 := (by rw [hA24]; exact hr24)
                                  rw [← hy24, ← hA24, ← hc24] at hcut24
                                  have HO368 := Aside0.mk (show Kd.V (Kd.int .u8) 5 _ w.heap.size _ (.slice A24 y364.length c24) y364 from Kd.V_mk (by rw [hy24, hc24]; exact Nat.sub_le_sub_right hroom24 _) hr24)
                                  have HC368 := Aside0.mk (show y364.length ≤ c24 from by rw [hy24, hc24]; exact Nat.sub_le_sub_right hroom24 _)
                                  clear hr24 hC24 hroom24 hi024 hsz24 hc24
                                  have KY24 := Aside0.mk hy24
                                  have KA24 := Aside0.mk hA24
                                  clear hy24 hA24
                                  replace q24 := eq_true q24
                                  go_wp2
                                  go_roundg kj12
                                  case measure => have := HK1.out; have := HJ1.out; have := HJ12.out; omega
                                  case rel => exact ⟨(y364), H', ⟨by have := HK1.out; have := HJ1.out; have := HJ12.out; omega⟩, ⟨by (with_reducible repeat (first | apply Kd.V_alloc | apply Kd.V_drewN | apply Kd.V_drew)); exact HO368.out⟩, ⟨by repeat (first | (with_reducible first | exact HB.out | apply below_alloc | apply pw_below_drewN | apply below_drew1) | exact HB.out)⟩⟩
                                · rw [if_neg c23] at H
                                  exact absurd H (by simp)
                              · rw [if_neg c22] at H
                                exact absurd H (by simp)
                        · rw [if_neg c18] at H
                          exact absurd H (by simp)
            · rw [if_neg c8] at H
              exact absurd H (by simp)
          · replace c7 := Bool.eq_false_iff.mpr c7
            subst c7
            have H1 : (some 0) = some r := by rw [if_neg (show ¬ (false = true) by decide)] at H; exact H
            clear H
            have H := H1
            clear H1
            obtain rfl := Option.some.inj H
            go_wp2
            go_ret
            exact ⟨by first | rfl | (simp [errW_none, errW_some] <;> rfl) | (simp [*, errW_none, errW_some] <;> rfl), by repeat (first | (with_reducible first | exact HB.out | apply below_alloc | apply pw_below_drewN | apply below_drew1) | exact HB.out)⟩
def stockadelaw03_small.f  : Option (Int × Int × Int × Int × Int × Int × Int × Int × Int × Bool × Int × Int × Bool × List Int × List Int) := some (4, 4, 0, 167772161, 4, 0, 167772162, 17, 64, false, 0, 0, false, ([] : List Int), (([1, 2, 3, 4] : List Int)))
set_option maxHeartbeats 8000000 in
set_option maxRecDepth 100000 in
theorem stockadelaw03_small.calls  (r1 : Int) (r2 : Int) (r3 : Int) (r4 : Int) (r5 : Int) (r6 : Int) (r7 : Int) (r8 : Int) (r9 : Int) (r10 : Bool) (r11 : Int) (r12 : Int) (r13 : Bool) (r14 : List Int) (r15 : List Int) (w : World) (h : stockadelaw03_small.f  = some (r1, r2, r3, r4, r5, r6, r7, r8, r9, r10, r11, r12, r13, r14, r15)) :
    Calls Try.prog 115 #[] w fun e w' => ∃ v13_ v14_ : Value, e = .returned (.agg #[.int .i64 r1, .int .i64 r2, .int .u64 r3, .int .u64 r4, .int .i64 r5, .int .u64 r6, .int .u64 r7, .int .i64 r8, .int .i64 r9, .bool r10, .int .u32 r11, .int .i64 r12, .bool r13, v13_, v14_]) ∧ Kd.R (Kd.int .i64) 3 w' w.heap.size (fun _ => True) v13_ r14 ∧ Kd.R (Kd.int .u8) 5 w' w.heap.size (fun _ => True) v14_ r15 ∧ Below w.heap.size w w' := by
  have hu55 := Try.underlying55
  have hu53 := Try.underlying53
  have HB := Aside0.mk (Below.refl w.heap.size w)
  have H : (some (4, 4, 0, 167772161, 4, 0, 167772162, 17, 64, false, 0, 0, false, ([] : List Int), (([1, 2, 3, 4] : List Int)))) = some (r1, r2, r3, r4, r5, r6, r7, r8, r9, r10, r11, r12, r13, r14, r15) := h
  clear h
  obtain ⟨y377, hy377⟩ : ∃ y_ : List Int, y_ = (([1, 2, 3, 4] : List Int)) := ⟨_, rfl⟩
  replace H : (some (4, 4, 0, 167772161, 4, 0, 167772162, 17, 64, false, 0, 0, false, ([] : List Int), y377)) = some (r1, r2, r3, r4, r5, r6, r7, r8, r9, r10, r11, r12, r13, r14, r15) := by first | (rw [hy377]; with_reducible exact H) | (have H2_ := (Option.bind_some _ _).symm.trans H; rw [hy377]; with_reducible exact H2_) | (have H2_ := (Option.bind_some _ _).symm.trans H; with_reducible exact H2_) | with_reducible exact H | (rw [hy377]; exact H) | exact H
  have Ny377 := Aside0.mk hy377
  clear hy377
  simp only [Option.some.injEq, Prod.mk.injEq] at H
  obtain ⟨rfl, rfl, rfl, rfl, rfl, rfl, rfl, rfl, rfl, rfl, rfl, rfl, rfl, rfl, rfl⟩ := H
  go_enter Try.func115, Try.ntmps115
  go_wp2_with (first | ((with_reducible refine gate_dst (N := 0) rfl ?_); refine box_event ?hg (N := 0) ?hd (cs := #[.int .i64 0, .int .i64 0, .int .u64 0, .int .u64 0, .int .i64 0, .int .u64 0, .int .u64 0, .int .i64 0, .int .i64 0, .bool false, .int .u32 0, .int .i64 0, .bool false, .slice none 0 0, .slice none 0 0]) (t := 55) ?hr ?_; (case hd => rfl); (case hg => rfl); (case hr => first | (go_simp; done) | (go_simp; rfl)); intro gb376 hg w1 hbox hb; have n0_ := Aside0.mk (below_step (by repeat (first | (with_reducible first | exact HB.out | apply below_alloc | apply pw_below_drewN | apply below_drew1) | exact HB.out)) hb); have n1_ := Aside0.mk (hbox); have n2_ := Aside0.mk ((by rw [hg]; exact (below_size (by repeat (first | (with_reducible first | exact HB.out | apply below_alloc | apply pw_below_drewN | apply below_drew1) | exact HB.out))) : w.heap.size ≤ gb376)); have n3_ := Aside0.mk ((by rw [hg]; exact (below_size (by repeat (first | (with_reducible first | exact HB.out | apply below_alloc | apply pw_below_drewN | apply below_drew1) | exact HB.out))) : w.heap.size ≤ gb376)); clear HB; have HB := n0_; have BK376 := n1_; have GW376 := n2_; have GE376 := n3_; clear n0_ n1_ n2_ n3_; clear hb hbox hg) | ((with_reducible refine gate_dst (N := 3) rfl ?_); refine Kd.R_lit (Kd.int .u8) _ 5 ?hg (N := 3) ?hd (xs := ([1, 2, 3, 4] : List Int)) (inner := [.int .u8 1, .int .u8 2, .int .u8 3, .int .u8 4]) (ok := fun _ => True) (okp := fun _ => True) ?hr ?hp (fun _ hk => hk) trivial (Below.refl _ _) (Nat.le_refl _) (by simp) ?_; (case hd => rfl); (case hg => rfl); (case hr => first | (go_simp; done) | (go_simp; rfl)); (case hp => exact (Reps.one (show Kd.M (Kd.int .u8) _ _ _ 1 [.int .u8 1] from rfl) (Reps.one (show Kd.M (Kd.int .u8) _ _ _ 2 [.int .u8 2] from rfl) (Reps.one (show Kd.M (Kd.int .u8) _ _ _ 3 [.int .u8 3] from rfl) (Reps.one (show Kd.M (Kd.int .u8) _ _ _ 4 [.int .u8 4] from rfl) (Reps.none _ _)))))); intro v378 w2 ho3 hb hg_ hnew_; clear hg_ hnew_; (first | rw [← Ny377.out] at ho3 | (simp only [Int.reduceToNat] at ho3; rw [← Ny377.out] at ho3)); have n0_ := Aside0.mk (Kd.R_lower ho3 (below_size (by repeat (first | (with_reducible first | exact HB.out | apply below_alloc | apply pw_below_drewN | apply below_drew1 | refine below_set ?_ GE376.out) | exact HB.out)))); have n1_ := Aside0.mk (blk_below (g := gb376) (o := .cells #[.int .i64 0, .int .i64 0, .int .u64 0, .int .u64 0, .int .i64 0, .int .u64 0, .int .u64 0, .int .i64 0, .int .i64 0, .bool false, .int .u32 0, .int .i64 0, .bool false, .slice none 0 0, .slice none 0 0] 55 (0, 0)) (by (with_reducible repeat (first | refine blk_drewN ?_ _ | refine blk_drew ?_ | refine blk_alloc ?_ _)); exact BK376.out) hb); have n2_ := Aside0.mk (below_step (by repeat (first | (with_reducible first | exact HB.out | apply below_alloc | apply pw_below_drewN | apply below_drew1 | refine below_set ?_ GE376.out) | exact HB.out)) hb); clear BK376; clear HB; have HO379 := n0_; have BK376 := n1_; have HB := n2_; clear n0_ n1_ n2_; clear hb ho3; obtain ⟨Ao4, co4, eo4⟩ := Kd.R_slice HO379.out; subst eo4; have hcz5_0 : w2.cell? ⟨gb376, 0, none⟩ = some (.int .i64 0) := (blk_cell BK376.out 0).trans rfl; have hcz5_1 : w2.cell? ⟨gb376, 1, none⟩ = some (.int .i64 0) := (blk_cell BK376.out 1).trans rfl; have hcz5_2 : w2.cell? ⟨gb376, 2, none⟩ = some (.int .u64 0) := (blk_cell BK376.out 2).trans rfl; have hcz5_3 : w2.cell? ⟨gb376, 3, none⟩ = some (.int .u64 0) := (blk_cell BK376.out 3).trans rfl; have hcz5_4 : w2.cell? ⟨gb376, 4, none⟩ = some (.int .i64 0) := (blk_cell BK376.out 4).trans rfl; have hcz5_5 : w2.cell? ⟨gb376, 5, none⟩ = some (.int .u64 0) := (blk_cell BK376.out 5).trans rfl; have hcz5_6 : w2.cell? ⟨gb376, 6, none⟩ = some (.int .u64 0) := (blk_cell BK376.out 6).trans rfl; have hcz5_7 : w2.cell? ⟨gb376, 7, none⟩ = some (.int .i64 0) := (blk_cell BK376.out 7).trans rfl; have hcz5_8 : w2.cell? ⟨gb376, 8, none⟩ = some (.int .i64 0) := (blk_cell BK376.out 8).trans rfl; have hcz5_9 : w2.cell? ⟨gb376, 9, none⟩ = some (.bool false) := (blk_cell BK376.out 9).trans rfl; have hcz5_10 : w2.cell? ⟨gb376, 10, none⟩ = some (.int .u32 0) := (blk_cell BK376.out 10).trans rfl; have hcz5_11 : w2.cell? ⟨gb376, 11, none⟩ = some (.int .i64 0) := (blk_cell BK376.out 11).trans rfl; have hcz5_12 : w2.cell? ⟨gb376, 12, none⟩ = some (.bool false) := (blk_cell BK376.out 12).trans rfl; have hcz5_13 : w2.cell? ⟨gb376, 13, none⟩ = some (.slice none 0 0) := (blk_cell BK376.out 13).trans rfl; have hcz5_14 : w2.cell? ⟨gb376, 14, none⟩ = some (.slice none 0 0) := (blk_cell BK376.out 14).trans rfl; have hfz5_0 := blk_frozen BK376.out 0; have hfz5_1 := blk_frozen BK376.out 1; have hfz5_2 := blk_frozen BK376.out 2; have hfz5_3 := blk_frozen BK376.out 3; have hfz5_4 := blk_frozen BK376.out 4; have hfz5_5 := blk_frozen BK376.out 5; have hfz5_6 := blk_frozen BK376.out 6; have hfz5_7 := blk_frozen BK376.out 7; have hfz5_8 := blk_frozen BK376.out 8; have hfz5_9 := blk_frozen BK376.out 9; have hfz5_10 := blk_frozen BK376.out 10; have hfz5_11 := blk_frozen BK376.out 11; have hfz5_12 := blk_frozen BK376.out 12; have hfz5_13 := blk_frozen BK376.out 13; have hfz5_14 := blk_frozen BK376.out 14))
  refine bodyPost_ret (results_cell_row rfl _ _ gb376 55 #[.int .i64 4, .int .i64 4, .int .u64 0, .int .u64 167772161, .int .i64 4, .int .u64 0, .int .u64 167772162, .int .i64 17, .int .i64 64, .bool false, .int .u32 0, .int .i64 0, .bool false, .slice none 0 0, .slice Ao4 y377.length co4] (0, 0) _ rfl (by (with_reducible repeat (first | refine blk_drewN ?_ _ | refine blk_drew ?_ | refine blk_alloc ?_ _)); refine blk_put (cs := #[.int .i64 4, .int .i64 4, .int .u64 0, .int .u64 167772161, .int .i64 4, .int .u64 0, .int .u64 167772162, .int .i64 17, .int .i64 64, .bool false, .int .u32 0, .int .i64 0, .bool false, .slice none 0 0, .slice none 0 0]) ?_ 14 _ rfl; (with_reducible repeat (first | refine blk_drewN ?_ _ | refine blk_drew ?_ | refine blk_alloc ?_ _)); refine blk_put (cs := #[.int .i64 4, .int .i64 4, .int .u64 0, .int .u64 167772161, .int .i64 4, .int .u64 0, .int .u64 167772162, .int .i64 17, .int .i64 64, .bool false, .int .u32 0, .int .i64 0, .bool false, .slice none 0 0, .slice none 0 0]) ?_ 13 _ rfl; (with_reducible repeat (first | refine blk_drewN ?_ _ | refine blk_drew ?_ | refine blk_alloc ?_ _)); refine blk_put (cs := #[.int .i64 4, .int .i64 4, .int .u64 0, .int .u64 167772161, .int .i64 4, .int .u64 0, .int .u64 167772162, .int .i64 17, .int .i64 64, .bool false, .int .u32 0, .int .i64 0, .bool false, .slice none 0 0, .slice none 0 0]) ?_ 12 _ rfl; (with_reducible repeat (first | refine blk_drewN ?_ _ | refine blk_drew ?_ | refine blk_alloc ?_ _)); refine blk_put (cs := #[.int .i64 4, .int .i64 4, .int .u64 0, .int .u64 167772161, .int .i64 4, .int .u64 0, .int .u64 167772162, .int .i64 17, .int .i64 64, .bool false, .int .u32 0, .int .i64 0, .bool false, .slice none 0 0, .slice none 0 0]) ?_ 11 _ rfl; (with_reducible repeat (first | refine blk_drewN ?_ _ | refine blk_drew ?_ | refine blk_alloc ?_ _)); refine blk_put (cs := #[.int .i64 4, .int .i64 4, .int .u64 0, .int .u64 167772161, .int .i64 4, .int .u64 0, .int .u64 167772162, .int .i64 17, .int .i64 64, .bool false, .int .u32 0, .int .i64 0, .bool false, .slice none 0 0, .slice none 0 0]) ?_ 10 _ rfl; (with_reducible repeat (first | refine blk_drewN ?_ _ | refine blk_drew ?_ | refine blk_alloc ?_ _)); refine blk_put (cs := #[.int .i64 4, .int .i64 4, .int .u64 0, .int .u64 167772161, .int .i64 4, .int .u64 0, .int .u64 167772162, .int .i64 17, .int .i64 64, .bool false, .int .u32 0, .int .i64 0, .bool false, .slice none 0 0, .slice none 0 0]) ?_ 9 _ rfl; (with_reducible repeat (first | refine blk_drewN ?_ _ | refine blk_drew ?_ | refine blk_alloc ?_ _)); refine blk_put (cs := #[.int .i64 4, .int .i64 4, .int .u64 0, .int .u64 167772161, .int .i64 4, .int .u64 0, .int .u64 167772162, .int .i64 17, .int .i64 0, .bool false, .int .u32 0, .int .i64 0, .bool false, .slice none 0 0, .slice none 0 0]) ?_ 8 _ rfl; (with_reducible repeat (first | refine blk_drewN ?_ _ | refine blk_drew ?_ | refine blk_alloc ?_ _)); refine blk_put (cs := #[.int .i64 4, .int .i64 4, .int .u64 0, .int .u64 167772161, .int .i64 4, .int .u64 0, .int .u64 167772162, .int .i64 0, .int .i64 0, .bool false, .int .u32 0, .int .i64 0, .bool false, .slice none 0 0, .slice none 0 0]) ?_ 7 _ rfl; (with_reducible repeat (first | refine blk_drewN ?_ _ | refine blk_drew ?_ | refine blk_alloc ?_ _)); refine blk_put (cs := #[.int .i64 4, .int .i64 4, .int .u64 0, .int .u64 167772161, .int .i64 4, .int .u64 0, .int .u64 0, .int .i64 0, .int .i64 0, .bool false, .int .u32 0, .int .i64 0, .bool false, .slice none 0 0, .slice none 0 0]) ?_ 6 _ rfl; (with_reducible repeat (first | refine blk_drewN ?_ _ | refine blk_drew ?_ | refine blk_alloc ?_ _)); refine blk_put (cs := #[.int .i64 4, .int .i64 4, .int .u64 0, .int .u64 167772161, .int .i64 4, .int .u64 0, .int .u64 0, .int .i64 0, .int .i64 0, .bool false, .int .u32 0, .int .i64 0, .bool false, .slice none 0 0, .slice none 0 0]) ?_ 5 _ rfl; (with_reducible repeat (first | refine blk_drewN ?_ _ | refine blk_drew ?_ | refine blk_alloc ?_ _)); refine blk_put (cs := #[.int .i64 4, .int .i64 4, .int .u64 0, .int .u64 167772161, .int .i64 0, .int .u64 0, .int .u64 0, .int .i64 0, .int .i64 0, .bool false, .int .u32 0, .int .i64 0, .bool false, .slice none 0 0, .slice none 0 0]) ?_ 4 _ rfl; (with_reducible repeat (first | refine blk_drewN ?_ _ | refine blk_drew ?_ | refine blk_alloc ?_ _)); refine blk_put (cs := #[.int .i64 4, .int .i64 4, .int .u64 0, .int .u64 0, .int .i64 0, .int .u64 0, .int .u64 0, .int .i64 0, .int .i64 0, .bool false, .int .u32 0, .int .i64 0, .bool false, .slice none 0 0, .slice none 0 0]) ?_ 3 _ rfl; (with_reducible repeat (first | refine blk_drewN ?_ _ | refine blk_drew ?_ | refine blk_alloc ?_ _)); refine blk_put (cs := #[.int .i64 4, .int .i64 4, .int .u64 0, .int .u64 0, .int .i64 0, .int .u64 0, .int .u64 0, .int .i64 0, .int .i64 0, .bool false, .int .u32 0, .int .i64 0, .bool false, .slice none 0 0, .slice none 0 0]) ?_ 2 _ rfl; (with_reducible repeat (first | refine blk_drewN ?_ _ | refine blk_drew ?_ | refine blk_alloc ?_ _)); refine blk_put (cs := #[.int .i64 4, .int .i64 0, .int .u64 0, .int .u64 0, .int .i64 0, .int .u64 0, .int .u64 0, .int .i64 0, .int .i64 0, .bool false, .int .u32 0, .int .i64 0, .bool false, .slice none 0 0, .slice none 0 0]) ?_ 1 _ rfl; (with_reducible repeat (first | refine blk_drewN ?_ _ | refine blk_drew ?_ | refine blk_alloc ?_ _)); refine blk_put (cs := #[.int .i64 0, .int .i64 0, .int .u64 0, .int .u64 0, .int .i64 0, .int .u64 0, .int .u64 0, .int .i64 0, .int .i64 0, .bool false, .int .u32 0, .int .i64 0, .bool false, .slice none 0 0, .slice none 0 0]) ?_ 0 _ rfl; (with_reducible repeat (first | refine blk_drewN ?_ _ | refine blk_drew ?_ | refine blk_alloc ?_ _)); exact BK376.out) Try.underlying55 rfl (by kernel_rfl)) rfl ?_
  exact ⟨_, _, by first | rfl | (simp [errW_none, errW_some] <;> rfl) | (simp [*, errW_none, errW_some] <;> rfl), by first | exact Kd.R_nil _ _ _ _ _ | exact Kd.N_nil _ _ _ _ _ | exact Kd.V_nil _ _ _ _ _ | exact Kd.Q_nil _ _ _ _ _ | exact Kd.S_nil _ _ _ _ _, by (with_reducible repeat (first | apply Kd.R_alloc | apply Kd.R_drewN | apply Kd.R_drew)); exact Kd.R_mono (Kd.R_far (p := ⟨gb376, 14, none⟩) (Kd.R_far (p := ⟨gb376, 13, none⟩) (Kd.R_far (p := ⟨gb376, 12, none⟩) (Kd.R_far (p := ⟨gb376, 11, none⟩) (Kd.R_far (p := ⟨gb376, 10, none⟩) (Kd.R_far (p := ⟨gb376, 9, none⟩) (Kd.R_far (p := ⟨gb376, 8, none⟩) (Kd.R_far (p := ⟨gb376, 7, none⟩) (Kd.R_far (p := ⟨gb376, 6, none⟩) (Kd.R_far (p := ⟨gb376, 5, none⟩) (Kd.R_far (p := ⟨gb376, 4, none⟩) (Kd.R_far (p := ⟨gb376, 3, none⟩) (Kd.R_far (p := ⟨gb376, 2, none⟩) (Kd.R_far (p := ⟨gb376, 1, none⟩) (Kd.R_far (p := ⟨gb376, 0, none⟩) (Kd.R_types HO379.out BK376.out (by decide)) (fun _ hk => hk.2) (.int .i64 4)) (fun _ hk => hk.2) (.int .i64 4)) (fun _ hk => hk.2) (.int .u64 0)) (fun _ hk => hk.2) (.int .u64 167772161)) (fun _ hk => hk.2) (.int .i64 4)) (fun _ hk => hk.2) (.int .u64 0)) (fun _ hk => hk.2) (.int .u64 167772162)) (fun _ hk => hk.2) (.int .i64 17)) (fun _ hk => hk.2) (.int .i64 64)) (fun _ hk => hk.2) (.bool false)) (fun _ hk => hk.2) (.int .u32 0)) (fun _ hk => hk.2) (.int .i64 0)) (fun _ hk => hk.2) (.bool false)) (fun _ hk => hk.2) (.slice none 0 0)) (fun _ hk => hk.2) (.slice Ao4 y377.length co4)) (fun _ hk => trivial), by repeat (first | (with_reducible first | exact HB.out | apply below_alloc | apply pw_below_drewN | apply below_drew1 | refine below_set ?_ GE376.out) | exact HB.out)⟩
end Go.Proofs.Ytgifcmbknkjemaa.QQ
end
