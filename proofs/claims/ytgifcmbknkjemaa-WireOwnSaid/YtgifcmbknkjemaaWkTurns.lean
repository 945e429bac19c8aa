/- The law WireTurns: the order of words turns nothing of a sum: the call answers true. Conditions: bytes are bytes, numbers of their kinds, lengths within reach. -/
import Derived.Test.YtgifcmbknkjemaaM
namespace Go.Proofs.Ytgifcmbknkjemaa.Own
open Go Go.RowKit Go.Proofs.YtgifcmbknkjemaaW.PrintWords Go.Proofs.YtgifcmbknkjemaaW.PrintLast Go.Proofs.YtgifcmbknkjemaaW.PrintMore
set_option linter.unusedVariables false
set_option linter.unusedSimpArgs false

/-- Two cells change places. -/
def swp (xs : List Int) (p q : Nat) : List Int := (xs.set p (rd xs q)).set q (rd xs p)
theorem reads_nil {w w1 : World} {v : Value} (h : Kd.R (Kd.int .u8) 5 w1 w.heap.size (fun _ => True) v []) : ∃ A c, v = .slice A 0 c ∧ Aside0 ((Kd.int .u8).C w1 A 0 []) := by
  obtain ⟨A, c, e, _, h⟩ := Kd.R_reads h
  exact ⟨A, c, e, ⟨h⟩⟩
def wt (b : Bool) (i : Nat) : Int := if decide (i % 2 = 0) = b then 1 else 256
theorem wt_even (b : Bool) (p q : Nat) (h : p % 2 = q % 2) : wt b p = wt b q := by unfold wt; rw [h]
theorem wt_succ (b : Bool) (i : Nat) : wt b (i + 1) = wt (!b) i := by
  unfold wt
  rcases Nat.mod_two_eq_zero_or_one i with h | h
  · have : (i + 1) % 2 = 1 := by omega
    rw [h, this]; cases b <;> decide
  · have : (i + 1) % 2 = 0 := by omega
    rw [h, this]; cases b <;> decide
theorem rdn_set (xs : List Int) (p q : Nat) (v : Int) : rd (xs.set p v) (q : Int) = if p = q ∧ q < xs.length then v else rd xs q := by
  simp only [rd, Int.toNat_natCast, List.getD_eq_getElem?_getD, List.getElem?_set]
  by_cases h : p = q
  · subst h
    by_cases hl : p < xs.length
    · simp [hl]
    · simp [hl]
  · simp [h]
theorem wsum_set (b : Bool) (xs : List Int) (i : Nat) (v : Int) (hi : i < xs.length) : wsum b (xs.set i v) = wsum b xs + wt b i * (v - rd xs i) := by
  induction xs generalizing b i with
  | nil => simp at hi
  | cons c r ih =>
    cases i with
    | zero =>
      have hr : rd (c :: r) ((0 : Nat) : Int) = c := rfl
      rw [hr]
      cases b <;> simp [wsum, wt] <;> omega
    | succ i =>
      have hr : rd (c :: r) ((i + 1 : Nat) : Int) = rd r (i : Int) := by
        show (c :: r).getD (((i + 1 : Nat) : Int)).toNat 0 = r.getD ((i : Int)).toNat 0
        rw [Int.toNat_natCast, Int.toNat_natCast, List.getD_cons_succ]
      rw [hr, wt_succ]
      have h1 := ih (!b) i (by simpa using hi)
      generalize wt (!b) i * (v - rd r (i : Int)) = z at h1 ⊢
      cases b <;> simp only [List.set_cons_succ, wsum, Bool.not_true, Bool.not_false] at h1 ⊢ <;> omega
theorem swp_length (xs : List Int) (p q : Nat) : (swp xs p q).length = xs.length := by simp [swp]
theorem wsum_swp (b : Bool) (xs : List Int) (p q : Nat) (hp : p < xs.length) (hq : q < xs.length) (h : p % 2 = q % 2) : wsum b (swp xs p q) = wsum b xs := by
  unfold swp
  rw [wsum_set b _ q _ (by simpa using hq), wsum_set b xs p _ hp, rdn_set, wt_even b p q h]
  have : (if p = q ∧ q < xs.length then rd xs q else rd xs q) = rd xs q := by split <;> rfl
  rw [this, Int.add_assoc, ← Int.mul_add, show rd xs (q : Int) - rd xs p + (rd xs p - rd xs q) = 0 by omega]
  simp
theorem bytes_rd (xs : List Int) (h : Bytes xs) (i : Int) : 0 ≤ rd xs i ∧ rd xs i ≤ 255 := by
  unfold rd
  rw [List.getD_eq_getElem?_getD]
  rcases hh : xs[i.toNat]? with _ | c
  · decide
  · exact h c (List.mem_of_getElem? hh)
theorem bytes_swp (xs : List Int) (h : Bytes xs) (p q : Nat) : Bytes (swp xs p q) := by
  intro c hc
  rcases List.mem_or_eq_of_mem_set hc with hc | rfl
  · rcases List.mem_or_eq_of_mem_set hc with hc | rfl
    · exact h c hc
    · exact bytes_rd xs h q
  · exact bytes_rd xs h p
theorem swp_own {W w0 : World} {base g n cap : Nat} {xs : List Int} (h : W.ownsRow base 5 1 (.slice (some ⟨g, 0, none⟩) n cap) n (nums .u8 xs)) (hb : Below base w0 W) (hg : base ≤ g) (p q : Nat) :
    ((W.setCell ⟨g, p, none⟩ (.int .u8 (rd xs q))).setCell ⟨g, q, none⟩ (.int .u8 (rd xs p))).drew.ownsRow base 5 1 (.slice (some ⟨g, 0, none⟩) n cap) n (nums .u8 (swp xs p q)) ∧ Below base w0 ((W.setCell ⟨g, p, none⟩ (.int .u8 (rd xs q))).setCell ⟨g, q, none⟩ (.int .u8 (rd xs p))).drew := by
  have h1 := (own_store h (p : Int) (rd xs q)).1
  have h2 := (own_store h1 (q : Int) (rd xs p)).1
  rw [Int.toNat_natCast] at h1 h2
  refine ⟨pw_own_drewN h2 1, below_drew ((hb.setCell hg _).setCell hg _)⟩
theorem place_of (a : Int) (h : Nat) (hp : 0 < h) (hm : h ≤ 140737488351232) : ∃ p : Nat, wrap64 ((wrap64 (a.tmod (h : Int) + (h : Int))).tmod (h : Int) * 2) = (p : Int) ∧ p % 2 = 0 ∧ p + 1 < 2 * h := by
  have h1 : -(h : Int) < a.tmod h ∧ a.tmod h < h := ⟨by have := Int.lt_tmod_of_pos a (show (0 : Int) < (h : Int) by omega); omega, Int.tmod_lt_of_pos a (by omega)⟩
  rw [w64 (a.tmod h + h) (by omega) (by omega)]
  have h2 : (a.tmod h + h).tmod h = (a.tmod h + h) % h := Int.tmod_eq_emod_of_nonneg (by omega)
  have h3 : 0 ≤ (a.tmod h + h) % h := Int.emod_nonneg _ (by omega)
  have h4 : (a.tmod h + h) % h < h := Int.emod_lt_of_pos _ (by omega)
  rw [h2]
  generalize (a.tmod h + h) % (h : Int) = r at h3 h4
  rw [w64 (r * 2) (by omega) (by omega)]
  exact ⟨(r * 2).toNat, by omega, by omega, by omega⟩
set_option maxRecDepth 100000 in
set_option maxHeartbeats 2000000 in
theorem WireTurns_walk (w : World) (A0 : Option Addr) (c0 : Nat) (l0 : List Int) (hr0 : Kd.C (Kd.int .u8) w A0 l0.length l0) (hc0 : l0.length ≤ c0) (hg0 : Bytes l0 ∧ l0.length ≤ 140737488351232) (a1 : Int) (hg1 : -9223372036854775808 ≤ a1 ∧ a1 ≤ 9223372036854775807) (a2 : Int) (hg2 : -9223372036854775808 ≤ a2 ∧ a2 ≤ 9223372036854775807) :
    Calls Try.prog 5 #[.slice A0 l0.length c0, .int .i64 a1, .int .i64 a2] w fun e w' => e = .returned (.bool true) ∧ Below w.heap.size w w' := by
  obtain ⟨m, hm⟩ : ∃ m : Nat, m = l0.length / 2 * 2 := ⟨_, rfl⟩
  obtain ⟨n0, hn0⟩ : ∃ n : Nat, n = l0.length := ⟨_, rfl⟩
  have hmle : m ≤ n0 := by omega
  have hev : Go.bits .andNot .i64 (n0 : Int) 1 = (m : Int) := by rw [andNot_even n0 (by omega), hm, hn0]
  have hbn0 : n0 ≤ 140737488351232 := by omega
  have hcc0 : n0 ≤ c0 := by omega
  rw [← hn0]
  obtain ⟨xs, hxs⟩ : ∃ xs, xs = l0.take m := ⟨_, rfl⟩
  have hxl : xs.length = m := by rw [hxs, List.length_take]; omega
  have hbx : Bytes xs := by rw [hxs]; exact fun c hc => hg0.1 c (List.mem_of_mem_take hc)
  have HC : Aside0 ((Kd.int .u8).C w A0 m xs) := ⟨by
    have := Kd.C_take hr0 (m := m) (by omega)
    rw [← hxs, hxl] at this
    exact this⟩
  have XL := Aside0.mk hxl
  have BX := Aside0.mk hbx
  have heven : m % 2 = 0 := by omega
  have HE := Aside0.mk heven
  have OX : Aside0 (okP [xs] = true) := ⟨okP_iff.2 ⟨by simp, fun p hp => by simp at hp; subst hp; exact ⟨hbx, by omega⟩⟩⟩
  clear hr0 hg0 hm hn0 hxs hxl hbx heven
  obtain ⟨i0, hi0, hz0, hz1, hz2⟩ := info_parts info5
  by_cases hm0 : m = 0
  · subst hm0
    have hx0 : xs = [] := List.length_eq_zero_iff.1 XL.out
    subst hx0
    go_enter Try.func5, Try.ntmps5
    go_wp2_with (at_builtin; refine Kd.R_append_rows (Kd.int .u8) (w0 := w) w.heap.size rfl (.const (.slice none 0 0)) (.tmp 13) 27 5 (.int .u8 0) 1 rfl Try.underlying27 info5 rfl (by decide) (by omega) (.slice none 0 0) [] [] _ _ _ (fun _ => True) (fun _ => False) rfl rfl (Kd.R_nil _ _ _ _ _) HC.out (fun _ _ h => h) (fun _ h => h.elim) (fun _ _ => trivial) (Below.refl _ _) (Nat.le_refl _) (by simp) ?_; intro v1 w1 ho hb hg hat; clear hg hat; rw [List.append_nil] at ho; obtain ⟨A1, c1, rfl, HR1⟩ := reads_nil ho; clear ho)
    clear hi0 hz0 hz1 hz2 hev
    have HB1 := Aside0.mk hb
    clear hb
    refine (Sum_at (l := [[]]) ?_ (by omega) OX.out).mono ?_
    · exact parts_one (blk_at rfl) (Kd.C_alloc HR1.out _) (by omega)
    rintro e w2 ⟨rfl, hb2⟩
    have HB2 := Aside0.mk (below_step (below_alloc HB1.out _) hb2)
    have HR2 : Aside0 ((Kd.int .u8).C w2 A1 0 []) := ⟨Kd.C_below (Kd.C_alloc HR1.out _) hb2⟩
    clear hb2 HB1 HR1
    go_wp2_with (first
      | (go_at_call 42; refine (alive01_at _).mono ?_; rintro e w6 ⟨rfl, hb6⟩)
      | (go_at_call 40; refine (Sum_at (l := [[]]) (parts_one (blk_at rfl) (Kd.C_alloc HR2.out _) (by omega)) (by omega) OX.out).mono ?_; rintro e w5 ⟨rfl, hb5⟩))
    go_ret
    exact ⟨rfl, below_step (below_step (below_alloc HB2.out _) hb5) hb6⟩
  have hmp : 0 < m := by omega
  go_enter Try.func5, Try.ntmps5
  go_wp2_with (at_builtin; refine Kd.R_append_rows (Kd.int .u8) (w0 := w) w.heap.size rfl (.const (.slice none 0 0)) (.tmp 13) 27 5 (.int .u8 0) 1 rfl Try.underlying27 info5 rfl (by decide) (by omega) (.slice none 0 0) [] xs _ _ _ (fun _ => True) (fun _ => False) rfl rfl (Kd.R_nil _ _ _ _ _) HC.out (fun _ _ h => h) (fun _ h => h.elim) (fun _ _ => trivial) (Below.refl _ _) (Nat.le_refl _) (by simp; omega) ?_; intro v1 w1 ho hb hg hat; clear hg hat; rw [List.nil_append] at ho; obtain ⟨g, cap, hv, hgb, hgl, hcap, HO⟩ := own_form_n XL.out ho hmp; subst hv)
  clear ho hi0 hz0 hz1 hz2 hev
  have HB1 := Aside0.mk hb
  clear hb
  refine (Sum_at (l := [xs]) ?_ (by omega) OX.out).mono ?_
  · exact parts_one (blk_at rfl) (Kd.C_alloc (C_of_own HO.out) _) (by omega)
  rintro e w2 ⟨rfl, hb2⟩
  have HO2 := Aside0.mk (pw_own_below (own_alloc HO.out _) hb2)
  have HB2 := Aside0.mk (below_step (below_alloc HB1.out _) hb2)
  have hgl2 : g < w2.heap.size := own_lt HO2.out g (by simp [Value.ownBlock])
  clear hb2 HO HB1 hgl
  have hmd : decide ((0 : Int) < (m : Int)) = true := by simp; omega
  obtain ⟨h, hh⟩ : ∃ h : Nat, m = 2 * h := ⟨m / 2, by have := HE.out; omega⟩
  subst hh
  have hhp : 0 < h := by omega
  go_upto_region 4 with (fail)
  go_cut [1] (fun v wc => ∃ p : Nat, v = .int .i64 p ∧ p % 2 = 0 ∧ p + 1 < 2 * h ∧ w2 = wc)
  case first =>
    go_wp2
    all_goals go_meet
    case rel =>
      obtain ⟨p, e, h1, h2⟩ := place_of a1 h hhp (by omega)
      exact ⟨p, by rw [e], h1, h2, rfl⟩
  case rest =>
    obtain ⟨p, rfl, hp0, hp, rfl⟩ := hcut
    go_upto_region 5 with (fail)
    go_cut [2] (fun v wc => ∃ p : Nat, v = .int .i64 p ∧ p % 2 = 0 ∧ p + 1 < 2 * h ∧ w2 = wc)
    case first =>
      go_wp2
      all_goals go_meet
      case rel =>
        obtain ⟨p, e, h1, h2⟩ := place_of a2 h hhp (by omega)
        exact ⟨p, by rw [e], h1, h2, rfl⟩
    case rest =>
      obtain ⟨q, rfl, hq0, hq, rfl⟩ := hcut
      have P0 := Aside0.mk hp0
      have Q0 := Aside0.mk hq0
      clear hp0 hq0
      go_upto_region 6 with (fail)
      go_cut [1] (fun v wc => v = .int .i64 p ∧ Aside0 (wc.ownsRow w.heap.size 5 1 (.slice (some ⟨g, 0, none⟩) (2 * h) cap) (2 * h) (nums .u8 (swp xs p q))) ∧ Aside0 (Below w.heap.size w wc))
      case first =>
        obtain ⟨hc1, hf1⟩ := own_at HO2.out (p : Int) (by omega) (by omega)
        obtain ⟨hc2, hf2⟩ := own_at HO2.out (q : Int) (by omega) (by omega)
        rw [Int.toNat_natCast] at hc1 hf1 hc2 hf2
        obtain ⟨vy, hy⟩ := cell?_setCell_some (w := w2) (p := ⟨g, p, none⟩) (x := .int .u8 (rd xs q)) (q := ⟨g, q, none⟩) hc2
        have i1 : (0 : Int) ≤ (p : Int) := by omega
        have i2 : (0 : Int) ≤ (q : Int) := by omega
        have i3 : (p : Int) < 2 * (h : Int) := by omega
        have i4 : (q : Int) < 2 * (h : Int) := by omega
        go_wp2_with fail
        go_region
        all_goals (go_wp2; go_meet)
        all_goals (exact ⟨rfl, ⟨(swp_own HO2.out HB2.out hgb p q).1⟩, ⟨(swp_own HO2.out HB2.out hgb p q).2⟩⟩)
      case rest =>
        obtain ⟨rfl, HO3, HB3⟩ := hcut
        have X3 := Aside0.mk (swp_length xs p q)
        obtain ⟨ys, hys⟩ : ∃ ys, ys = swp xs p q := ⟨_, rfl⟩
        have Y3 := Aside0.mk hys
        rw [← hys] at HO3
        clear hys HO2 HB2 hgl2
        go_upto_region 8 with (fail)
        go_cut [1] (fun v wc => v = .int .i64 p ∧ Aside0 (wc.ownsRow w.heap.size 5 1 (.slice (some ⟨g, 0, none⟩) (2 * h) cap) (2 * h) (nums .u8 (swp ys (p + 1) (q + 1)))) ∧ Aside0 (Below w.heap.size w wc))
        case first =>
          obtain ⟨hc1, hf1⟩ := own_at HO3.out ((p + 1 : Nat) : Int) (by omega) (by omega)
          obtain ⟨hc2, hf2⟩ := own_at HO3.out ((q + 1 : Nat) : Int) (by omega) (by omega)
          rw [Int.toNat_natCast] at hc1 hf1 hc2 hf2
          obtain ⟨vy, hy⟩ := cell?_setCell_some (w := wc) (p := ⟨g, p + 1, none⟩) (x := .int .u8 (rd ys ((q : Int) + 1))) (q := ⟨g, q + 1, none⟩) hc2
          have i1 : (0 : Int) ≤ (p : Int) := by omega
          have i2 : (0 : Int) ≤ (q : Int) := by omega
          have i3 : (p : Int) + 1 < 2 * (h : Int) := by omega
          have i4 : (q : Int) + 1 < 2 * (h : Int) := by omega
          have s1 : IntKind.i64.wrap ((p : Int) + 1) = ((p + 1 : Nat) : Int) := by rw [wraps_i64 _ (by omega) (by omega)]; omega
          have s2 : IntKind.i64.wrap ((q : Int) + 1) = ((q + 1 : Nat) : Int) := by rw [wraps_i64 _ (by omega) (by omega)]; omega
          go_wp2_with fail
          go_region
          all_goals (go_wp2; go_meet)
          all_goals (exact ⟨rfl, ⟨(swp_own HO3.out HB3.out hgb (p + 1) (q + 1)).1⟩, ⟨(swp_own HO3.out HB3.out hgb (p + 1) (q + 1)).2⟩⟩)
        case rest =>
          obtain ⟨rfl, HO4, HB4⟩ := hcut
          obtain ⟨zs, hzs⟩ : ∃ zs, zs = swp ys (p + 1) (q + 1) := ⟨_, rfl⟩
          have hsum : sumOf [zs] = sumOf [xs] := by
            have hxl := XL.out
            have h3 := Y3.out
            have hp0 := P0.out
            have hq0 := Q0.out
            have hyl : ys.length = 2 * h := by rw [h3, swp_length, hxl]
            unfold sumOf
            rw [List.flatten_singleton, List.flatten_singleton, hzs, wsum_swp false ys (p + 1) (q + 1) (by omega) (by omega) (by omega), h3, wsum_swp false xs p q (by omega) (by omega) (by omega)]
          have OZ : okP [zs] = true := by
            have hxl := XL.out
            have h3 := Y3.out
            refine okP_iff.2 ⟨by simp, fun u hu => ?_⟩
            simp at hu
            subst hu
            rw [hzs, h3]
            exact ⟨bytes_swp _ (bytes_swp _ BX.out _ _) _ _, by rw [swp_length, swp_length]; omega⟩
          rw [← hzs] at HO4
          have SZ := Aside0.mk hsum
          have OZ := Aside0.mk OZ
          have hll := own_lt HO4.out g (by simp [Value.ownBlock])
          clear hzs hsum Y3 X3 HO3 HB3
          go_wp2_with (first
            | (go_at_call 42; refine (alive01_at _).mono ?_; rintro e w6 ⟨rfl, hb6⟩)
            | (go_at_call 40; refine (Sum_to (l := [zs]) (sumOf [xs]) (parts_one (blk_at rfl) (Kd.C_alloc (C_of_own HO4.out) _) (by omega)) (by omega) OZ.out SZ.out).mono ?_; rintro e w5 ⟨rfl, hb5⟩))
          go_ret
          exact ⟨rfl, below_step (below_step (below_alloc HB4.out _) hb5) hb6⟩
end Go.Proofs.Ytgifcmbknkjemaa.Own
