/- The law WireOwn: what Part, Put16 and Put32 give is the call's own: stores into it leave the row as it was. -/
import Derived.Test.YtgifcmbknkjemaaRoom
namespace Go.Proofs.Ytgifcmbknkjemaa.Own
open Go Go.RowKit Go.Proofs.YtgifcmbknkjemaaW.PrintWords Go.Proofs.YtgifcmbknkjemaaW.PrintLast Go.Proofs.YtgifcmbknkjemaaW.PrintMore
set_option linter.unusedVariables false
set_option linter.unusedSimpArgs false

/-- A row that a call has made: its block is one of the call's. -/
def Made (base : Nat) (w1 : World) (v : Value) : Prop := ∃ (A : Option Addr) (k c : Nat) (ps : List Int), v = .slice A k c ∧ ps.length = k ∧ k ≤ 140737488355328 ∧ w1.ownsRow base 5 1 (.slice A k c) k (nums .u8 ps)
theorem Made.of {base : Nat} {w1 : World} {v : Value} {ps : List Int} (hl : ps.length ≤ 140737488355328) (h : Kd.R (Kd.int .u8) 5 w1 base (fun _ => True) v ps) : Made base w1 v := by
  have h2 := Kd.own_of_R h
  obtain ⟨A, c, rfl, hc, _⟩ := Kd.R_reads h
  exact ⟨A, ps.length, c, ps, rfl, rfl, hl, h2⟩
theorem Made.below {base : Nat} {w1 w2 : World} {v : Value} (h : Made base w1 v) (hb : Below w1.heap.size w1 w2) : Made base w2 v := by
  obtain ⟨A, k, c, ps, h1, h2, h3, h4⟩ := h
  exact ⟨A, k, c, ps, h1, h2, h3, pw_own_below h4 hb⟩
theorem Part_at {A : Option Addr} {c n : Nat} {l : List Int} (a1 a2 : Int) {w : World} (hr : (Kd.int .u8).C w A n l) (hc : n ≤ c) (hl : n ≤ 140737488355000) :
    Calls Try.prog 43 #[.slice A n c, .int .i64 a1, .int .i64 a2] w fun e w' => ∃ v b, e = .returned (.tuple #[v, .bool b]) ∧ Made w.heap.size w' v ∧ Below w.heap.size w w' := by
  have hn : l.length = n := hr.1
  subst hn
  refine (wire_Part.calls A c l a1 a2 (part l a1 a2).1 (part l a1 a2).2 w hr hc (by unfold wire_Part.f; rw [if_pos hl])).mono fun e w' h => ?_
  obtain ⟨v, h1, h2, h3⟩ := h
  refine ⟨v, _, h1, Made.of ?_ h2, h3⟩
  unfold part
  split
  · simp
  · simp only [cutL, List.length_take, List.length_drop]; omega
theorem Put16_at {A : Option Addr} {c n : Nat} {l : List Int} (a1 : Int) {w : World} (hr : (Kd.int .u8).C w A n l) (hc : n ≤ c) (hl : n ≤ 140737488355000) :
    Calls Try.prog 44 #[.slice A n c, .int .i64 a1] w fun e w' => ∃ v, e = .returned v ∧ Made w.heap.size w' v ∧ Below w.heap.size w w' := by
  have hn : l.length = n := hr.1
  subst hn
  refine (wire_Put16.calls A c l a1 _ w hr hc (by unfold wire_Put16.f; rw [if_pos hl])).mono fun e w' h => ?_
  obtain ⟨v, h1, h2, h3⟩ := h
  exact ⟨v, h1, Made.of (by simp [put16]; omega) h2, h3⟩
theorem Put32_at {A : Option Addr} {c n : Nat} {l : List Int} (a1 : Int) {w : World} (hr : (Kd.int .u8).C w A n l) (hc : n ≤ c) (hl : n ≤ 140737488355000) :
    Calls Try.prog 45 #[.slice A n c, .int .u32 a1] w fun e w' => ∃ v, e = .returned v ∧ Made w.heap.size w' v ∧ Below w.heap.size w w' := by
  have hn : l.length = n := hr.1
  subst hn
  refine (wire_Put32.calls A c l a1 _ w hr hc (by unfold wire_Put32.f; rw [if_pos hl])).mono fun e w' h => ?_
  obtain ⟨v, h1, h2, h3⟩ := h
  exact ⟨v, h1, Made.of (by simp [put32]; omega) h2, h3⟩
def Own8 (base : Nat) (wr : World) (v : Value) (k : Nat) : Prop := ∃ ps, wr.ownsRow base 5 1 v k (nums .u8 ps)
theorem Own8.put {base g k c : Nat} {wr : World} (h : Own8 base wr (.slice (some ⟨g, 0, none⟩) k c) k) (j : Nat) (x : Int) : Own8 base (wr.setCell ⟨g, j, none⟩ (.int .u8 x)) (.slice (some ⟨g, 0, none⟩) k c) k := by
  obtain ⟨ps, h⟩ := h
  have h1 := (own_store h (j : Int) x).1
  rw [Int.toNat_natCast] at h1
  exact ⟨_, h1⟩
theorem grown_setCell8 (w : World) (a : Addr) (u : Value) : w.grownBy (w.setCell a u) (some a.block) :=
  ⟨rfl, rfl, rfl, by simp, fun k _ hk => heap_setCell_other w a k u (fun e => hk (by rw [e]))⟩
theorem Own8.other {base g k : Nat} {wr : World} {v : Value} (h : Own8 base wr v k) (hg : g < base) (j : Nat) (x : Value) : Own8 base (wr.setCell ⟨g, j, none⟩ x) v k := by
  obtain ⟨ps, h⟩ := h
  exact ⟨ps, own_other h (grown_setCell8 wr ⟨g, j, none⟩ x) (.inr fun he => by have := own_base h g he; omega)⟩
theorem zo_other {W : World} {base g b N j : Nat} {x : Value} {xs : List Value} (h : W.ownsRow base 5 1 (.slice (some ⟨b, 0, none⟩) N N) N xs) (hne : b ≠ g) : (W.setCell ⟨g, j, none⟩ x).ownsRow base 5 1 (.slice (some ⟨b, 0, none⟩) N N) N xs :=
  own_other h (grown_setCell8 W ⟨g, j, none⟩ x) (.inr (fun he => hne (Option.some.inj he)))
theorem Own8.below {base k : Nat} {w1 w2 : World} {v : Value} (h : Own8 base w1 v k) (hb : Below w1.heap.size w1 w2) : Own8 base w2 v k := by
  obtain ⟨ps, h⟩ := h
  exact ⟨ps, pw_own_below h hb⟩
theorem Made.open {base : Nat} {w1 : World} {v : Value} (h : Made base w1 v) : ∃ (A : Option Addr) (k c : Nat), v = .slice A k c ∧ k ≤ 140737488355328 ∧ Aside0 (Own8 base w1 (.slice A k c) k) ∧ Aside0 (0 < k → ∃ g, A = some ⟨g, 0, none⟩ ∧ base ≤ g ∧ g < w1.heap.size) := by
  obtain ⟨A, k, c, ps, h1, h2, h3, h4⟩ := h
  refine ⟨A, k, c, h1, h3, ⟨ps, h4⟩, ⟨fun hk => ?_⟩⟩
  obtain ⟨g, cap, he, hb, hl⟩ := h4.form hk
  injection he with he
  exact ⟨g, he, hb, hl⟩
theorem Own8.at {base g k c : Nat} {wr : World} (h : Own8 base wr (.slice (some ⟨g, 0, none⟩) k c) k) (j : Nat) (hj : j < k) : ∃ x, wr.cell? ⟨g, j, none⟩ = some (.int .u8 x) ∧ wr.frozen? ⟨g, j, none⟩ = false := by
  obtain ⟨ps, h⟩ := h
  have h1 := own_at h (j : Int) (by omega) (by omega)
  rw [Int.toNat_natCast] at h1
  exact ⟨_, h1⟩
theorem front {W : World} {base g N n : Nat} {xs zs : List Int} (h : W.ownsRow base 5 1 (.slice (some ⟨g, 0, none⟩) N N) N (nums .u8 (xs ++ zs))) (hn : n = xs.length) (hN : n ≤ N) : (Kd.int .u8).C W (some ⟨g, 0, none⟩) n xs := by
  have hl : (xs ++ zs).length = N := by have := h.1; simp [nums] at this ⊢; exact this
  subst hl
  have h1 := Kd.C_take (C_of_own h) (m := n) hN
  have h2 : (xs ++ zs).take n = xs := by rw [hn, List.take_left]
  rw [h2] at h1
  rw [hn]
  exact h1
theorem Same_at {A B : Option Addr} {ca cb n : Nat} {l : List Int} {w : World} (ha : (Kd.int .u8).C w A n l) (hb : (Kd.int .u8).C w B n l) (hl : Bytes l) (hca : n ≤ ca) (hcb : n ≤ cb) :
    Calls Try.prog 46 #[.slice A n ca, .slice B n cb] w fun e w' => e = .returned (.bool true) ∧ Below w.heap.size w w' := by
  have hn : l.length = n := ha.1
  subst hn
  refine (stockaderef01_Same.calls A ca l B cb l true w ha hca hb hcb ?_).mono fun e w' h => ⟨h.1, h.2.below⟩
  unfold stockaderef01_Same.f
  rw [if_pos ⟨okB_iff.2 hl, okB_iff.2 hl⟩]
  simp
set_option maxRecDepth 100000 in
set_option maxHeartbeats 2000000 in
theorem WireOwn_walk (w : World) (A0 : Option Addr) (c0 : Nat) (l0 : List Int) (hr0 : Kd.C (Kd.int .u8) w A0 l0.length l0) (hc0 : l0.length ≤ c0) (hg0 : Bytes l0 ∧ l0.length ≤ 140737488351232) (a1 : Int) (hg1 : -9223372036854775808 ≤ a1 ∧ a1 ≤ 9223372036854775807) (a2 : Int) (hg2 : -9223372036854775808 ≤ a2 ∧ a2 ≤ 9223372036854775807) :
    Calls Try.prog 7 #[.slice A0 l0.length c0, .int .i64 a1, .int .i64 a2] w fun e w' => e = .returned (.bool true) ∧ Below w.heap.size w w' := by
  obtain ⟨n, hn⟩ : ∃ n, n = l0.length := ⟨_, rfl⟩
  rw [← hn] at hr0 hc0 hg0 ⊢
  have HC := Aside0.mk hr0
  have HBy := Aside0.mk hg0.1
  have hnb : n ≤ 140737488351232 := hg0.2
  have LN := Aside0.mk hn
  clear hn hg0 hr0
  have hmk : ∀ W : World, (Instr.makeSlice 27 (.int .i64 0) (.int .i64 ((n : Int) + 8))).run Try.prog W = .ok (.slice (some ⟨W.heap.size, 0, none⟩) 0 (n + 8)) (W.alloc (.cells (madeCells #[.int .u8 0] (n + 8)) 5)) := fun W => by
    obtain ⟨i0, hi, hz0, hz1, hz2⟩ := info_parts info5
    have h := run_make (P := Try.prog) W 27 5 i0 (.int .u8 0) Try.underlying27 hi hz0 .i64 .i64 0 ((n : Int) + 8) (by omega) (by omega) (by rw [hz2]; omega) (by omega)
    rw [show ((n : Int) + 8).toNat = n + 8 by omega, hz1, Nat.mul_one] at h
    exact h
  obtain ⟨W1, happ, ho1, hb1⟩ := append_room (own_made w w.heap.size 5 .u8 (n + 8) (Nat.le_refl _) (by omega)) (below_alloc (Below.refl _ _) _) (Nat.le_refl _) (Kd.C_alloc HC.out _) (by omega) 27
  have hput : putAt (List.replicate (n + 8) 0) 0 l0 = l0 ++ List.replicate 8 0 := by
    have hn := LN.out
    have := putAt_eq l0 [] (List.replicate (n + 8) 0) (by simp; omega)
    simp only [List.nil_append, List.length_nil] at this
    rw [this, List.drop_replicate, show n + 8 - l0.length = 8 by omega]
  rw [hput] at ho1
  have AP := Aside0.mk happ
  have ZO := Aside0.mk ho1
  have ZB := Aside0.mk hb1
  clear hput ho1 hb1 happ
  go_enter Try.func7, Try.ntmps7
  go_wp2_with (at_builtin; refine wp_append_run rfl (.tmp 20) (.tmp 21) 27 rfl (.slice (some ⟨w.heap.size, 0, none⟩) 0 (n + 8)) (.slice A0 n c0) _ W1 rfl rfl AP.out ?_)
  refine (Part_at a1 a2 (front ZO.out LN.out (by omega)) (by omega) (by omega)).mono ?_
  rintro e w2 ⟨v8, b9, rfl, hm8, hb2⟩
  have s2 := hb2.size
  have g1 : w.heap.size < W1.heap.size := own_lt ZO.out _ (by simp [Value.ownBlock])
  have ZO2 := Aside0.mk (pw_own_below ZO.out hb2)
  have ZB2 := Aside0.mk (below_step ZB.out hb2)
  have M8 := Aside0.mk hm8
  clear hb2 hm8 ZO ZB AP
  obtain ⟨A8, k8, c8, rfl, hk8, O8, F8⟩ := M8.out.open
  clear M8
  go_wp2_with (go_at_call 44; refine (Put16_at a2 (front ZO2.out LN.out (by omega)) (by omega) (by omega)).mono ?_; rintro e w3 ⟨v10, rfl, hm10, hb3⟩)
  have s3 := hb3.size
  have ZO3 := Aside0.mk (pw_own_below ZO2.out hb3)
  have ZB3 := Aside0.mk (below_step ZB2.out hb3)
  have P8 := Aside0.mk (O8.out.below hb3)
  obtain ⟨A10, k10, c10, rfl, hk10, O10, F10⟩ := hm10.open
  clear hb3 hm10 ZO2 ZB2 O8
  refine (Put32_at 7 (front ZO3.out LN.out (by omega)) (by omega) (by omega)).mono ?_
  rintro e w4 ⟨v11, rfl, hm11, hb4⟩
  have s4 := hb4.size
  have ZO4 := Aside0.mk (pw_own_below ZO3.out hb4)
  have ZB4 := Aside0.mk (below_step ZB3.out hb4)
  have Q8 := Aside0.mk (P8.out.below hb4)
  have P10 := Aside0.mk (O10.out.below hb4)
  obtain ⟨A11, k11, c11, rfl, hk11, O11, F11⟩ := hm11.open
  clear hb4 hm11 ZO3 ZB3 P8 O10
  go_upto_block 0 with (fail)
  go_cut [37] (fun v wc => Aside0 (wc.ownsRow w.heap.size 5 1 (Value.slice (some { block := w.heap.size, off := 0 }) (n + 8) (n + 8)) (n + 8) (nums IntKind.u8 (l0 ++ List.replicate 8 0))) ∧ Aside0 (Below w.heap.size w wc) ∧
    Aside0 (Own8 w2.heap.size wc (Value.slice A10 k10 c10) k10) ∧ Aside0 (Own8 w3.heap.size wc (Value.slice A11 k11 c11) k11))
  case first =>
    go_wp2_with (fail)
    go_loopw [37] (fun i wr => ∃ j : Nat, j ≤ k8 ∧ i = .int .i64 j ∧ Aside0 (wr.ownsRow w.heap.size 5 1 (Value.slice (some { block := w.heap.size, off := 0 }) (n + 8) (n + 8)) (n + 8) (nums IntKind.u8 (l0 ++ List.replicate 8 0))) ∧ Aside0 (Below w.heap.size w wr) ∧
        Aside0 (Own8 w2.heap.size wr (Value.slice A10 k10 c10) k10) ∧ Aside0 (Own8 w3.heap.size wr (Value.slice A11 k11 c11) k11) ∧ Aside0 (Own8 W1.heap.size wr (Value.slice A8 k8 c8) k8))
      (fun i _ => k8 - (intOf i).toNat)
    case atStart => exact ⟨0, Nat.zero_le _, rfl, ZO4, ZB4, P10, O11, Q8⟩
    case round =>
      obtain ⟨j, hj, rfl, hz, hbw, h10, h11, h8⟩ := hrel
      by_cases hlt : j < k8
      · obtain ⟨g8, rfl, hg1, hg2⟩ := F8.out (by omega)
        obtain ⟨x, hc, hf⟩ := h8.out.at j hlt
        go_wp2_with (fail)
        go_roundw
        case rel => exact ⟨j + 1, by omega, by go_num, ⟨zo_other hz.out (by omega)⟩, ⟨hbw.out.setCell (by show _ ≤ g8; omega) _⟩, ⟨h10.out.other hg2 _ _⟩, ⟨h11.out.other (by omega) _ _⟩, ⟨h8.out.put _ _⟩⟩
        case measure => simp [intOf]; omega
      · go_wp2_with (fail)
        go_meet
        case rel => exact ⟨hz, hbw, h10, h11⟩
  case rest =>
    obtain ⟨ZO5, ZB5, Q10, Q11⟩ := hcut
    clear ZO4 ZB4 Q8 P10 O11 F8
    go_upto_block 2 with (fail)
    go_cut [49] (fun v wd => Aside0 (wd.ownsRow w.heap.size 5 1 (Value.slice (some { block := w.heap.size, off := 0 }) (n + 8) (n + 8)) (n + 8) (nums IntKind.u8 (l0 ++ List.replicate 8 0))) ∧ Aside0 (Below w.heap.size w wd) ∧
      Aside0 (Own8 w3.heap.size wd (Value.slice A11 k11 c11) k11))
    case first =>
      go_wp2_with (fail)
      go_loopw [49] (fun i wr => ∃ j : Nat, j ≤ k10 ∧ i = .int .i64 j ∧ Aside0 (wr.ownsRow w.heap.size 5 1 (Value.slice (some { block := w.heap.size, off := 0 }) (n + 8) (n + 8)) (n + 8) (nums IntKind.u8 (l0 ++ List.replicate 8 0))) ∧ Aside0 (Below w.heap.size w wr) ∧
          Aside0 (Own8 w3.heap.size wr (Value.slice A11 k11 c11) k11) ∧ Aside0 (Own8 w2.heap.size wr (Value.slice A10 k10 c10) k10))
        (fun i _ => k10 - (intOf i).toNat)
      case atStart => exact ⟨0, Nat.zero_le _, rfl, ZO5, ZB5, Q11, Q10⟩
      case round =>
        obtain ⟨j, hj, rfl, hz, hbw, h11, h10⟩ := hrel
        by_cases hlt : j < k10
        · obtain ⟨g8, rfl, hg1, hg2⟩ := F10.out (by omega)
          obtain ⟨x, hc, hf⟩ := h10.out.at j hlt
          go_wp2_with (fail)
          go_roundw
          case rel => exact ⟨j + 1, by omega, by go_num, ⟨zo_other hz.out (by omega)⟩, ⟨hbw.out.setCell (by show _ ≤ g8; omega) _⟩, ⟨h11.out.other hg2 _ _⟩, ⟨h10.out.put _ _⟩⟩
          case measure => simp [intOf]; omega
        · go_wp2_with (fail)
          go_meet
          case rel => exact ⟨hz, hbw, h11⟩
    case rest =>
      obtain ⟨ZO6, ZB6, R11⟩ := hcut
      clear ZO5 ZB5 Q10 Q11 F10
      go_upto_block 4 with (fail)
      go_cut [58] (fun v we => Aside0 (we.ownsRow w.heap.size 5 1 (Value.slice (some { block := w.heap.size, off := 0 }) (n + 8) (n + 8)) (n + 8) (nums IntKind.u8 (l0 ++ List.replicate 8 0))) ∧ Aside0 (Below w.heap.size w we))
      case first =>
        go_wp2_with (fail)
        go_loopw [58] (fun i wr => ∃ j : Nat, j ≤ k11 ∧ i = .int .i64 j ∧ Aside0 (wr.ownsRow w.heap.size 5 1 (Value.slice (some { block := w.heap.size, off := 0 }) (n + 8) (n + 8)) (n + 8) (nums IntKind.u8 (l0 ++ List.replicate 8 0))) ∧ Aside0 (Below w.heap.size w wr) ∧
            Aside0 (Own8 w3.heap.size wr (Value.slice A11 k11 c11) k11))
          (fun i _ => k11 - (intOf i).toNat)
        case atStart => exact ⟨0, Nat.zero_le _, rfl, ZO6, ZB6, R11⟩
        case round =>
          obtain ⟨j, hj, rfl, hz, hbw, h11⟩ := hrel
          by_cases hlt : j < k11
          · obtain ⟨g8, rfl, hg1, hg2⟩ := F11.out (by omega)
            obtain ⟨x, hc, hf⟩ := h11.out.at j hlt
            go_wp2_with (fail)
            go_roundw
            case rel => exact ⟨j + 1, by omega, by go_num, ⟨zo_other hz.out (by omega)⟩, ⟨hbw.out.setCell (by show _ ≤ g8; omega) _⟩, ⟨h11.out.put _ _⟩⟩
            case measure => simp [intOf]; omega
          · go_wp2_with (fail)
            go_meet
            case rel => exact ⟨hz, hbw⟩
      case rest =>
        obtain ⟨ZO7, ZB7⟩ := hcut
        clear ZO6 ZB6 R11 F11
        go_wp2_with (fail)
        have hbs : Bytes l0 ∧ l0.length ≤ 140737488353000 := ⟨HBy.out, by have := LN.out; omega⟩
        refine (Sum_at (l := [l0]) ?_ (by omega) (okP_one hbs.1 hbs.2)).mono ?_
        · exact parts_one (blk_at rfl) (Kd.C_alloc (front ZO7.out LN.out (by omega)) _) (by omega)
        rintro e w8 ⟨rfl, hb8⟩
        have ZO8 := Aside0.mk (pw_own_below (own_alloc ZO7.out _) hb8)
        have ZB8 := Aside0.mk (below_step (below_alloc ZB7.out _) hb8)
        clear hb8 ZO7 ZB7 hbs
        go_wp2_with (fail)
        go_loopw [16] (fun i wr => ∃ j : Nat, n ≤ j ∧ j ≤ n + 8 ∧ i = .int .i64 j ∧ w8 = wr) (fun i _ => n + 8 - (intOf i).toNat)
        case atStart => exact ⟨n, Nat.le_refl _, by omega, by rfl, by first | rfl | trivial⟩
        case round =>
          obtain ⟨j, hj, hj8, rfl, rfl⟩ := hrel
          by_cases hlt : j < n + 8
          · have hc := (own_at ZO8.out (j : Int) (by omega) (by omega)).1
            rw [Int.toNat_natCast] at hc
            have hz : rd (l0 ++ List.replicate 8 0) (j : Int) = 0 := by
              have := LN.out
              simp only [rd, Int.toNat_natCast, List.getD_eq_getElem?_getD]
              rw [List.getElem?_append_right (by omega), List.getElem?_replicate, if_pos (by omega)]
              rfl
            rw [hz] at hc
            clear hz
            go_wp2_with (fail)
            go_roundw
            case rel => exact ⟨j + 1, by omega, by omega, by go_num, by first | rfl | trivial⟩
            case measure => simp [intOf]; omega
          · go_wp2_with (first
              | (go_at_call 42; refine (alive01_at _).mono ?_; rintro e wa ⟨rfl, hba⟩)
              | (go_at_call 46; refine (Same_at (l := l0) (front ZO8.out LN.out (by omega)) (Kd.C_below HC.out ZB8.out) HBy.out (by omega) hc0).mono ?_; rintro e wb ⟨rfl, hbb⟩))
            go_ret
            exact ⟨rfl, below_step (below_step ZB8.out hbb) hba⟩
end Go.Proofs.Ytgifcmbknkjemaa.Own
