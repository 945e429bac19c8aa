/- The law WireChecked: a row with its check sums to 65535, and one turned byte breaks it: the call answers true. Conditions: bytes are bytes, numbers of their kinds, lengths within reach. -/
import Derived.Test.YtgifcmbknkjemaaWkTurns
namespace Go.Proofs.Ytgifcmbknkjemaa.Own
open Go Go.RowKit Go.Proofs.YtgifcmbknkjemaaW.PrintWords Go.Proofs.YtgifcmbknkjemaaW.PrintLast Go.Proofs.YtgifcmbknkjemaaW.PrintMore
set_option linter.unusedVariables false
set_option linter.unusedSimpArgs false

theorem place_in (a : Int) (n : Nat) (hp : 0 < n) (hm : n ≤ 140737488451232) : ∃ p : Nat, (wrap64 (a.tmod (n : Int) + (n : Int))).tmod (n : Int) = (p : Int) ∧ p < n := by
  have h1 : -(n : Int) < a.tmod n ∧ a.tmod n < n := ⟨by have := Int.lt_tmod_of_pos a (show (0 : Int) < (n : Int) by omega); omega, Int.tmod_lt_of_pos a (by omega)⟩
  rw [w64 (a.tmod n + n) (by omega) (by omega)]
  have h2 : (a.tmod n + n).tmod n = (a.tmod n + n) % n := Int.tmod_eq_emod_of_nonneg (by omega)
  have h3 : 0 ≤ (a.tmod n + n) % n := Int.emod_nonneg _ (by omega)
  have h4 : (a.tmod n + n) % n < n := Int.emod_lt_of_pos _ (by omega)
  rw [h2]
  exact ⟨((a.tmod n + n) % n).toNat, by omega, by omega⟩
theorem own_any {w w1 : World} {v : Value} {xs : List Int} {n : Nat} (hl : xs.length = n) (h : Kd.R (Kd.int .u8) 5 w1 w.heap.size (fun _ => True) v xs) :
    ∃ A c, v = .slice A n c ∧ n ≤ c ∧ Aside0 (Kd.R (Kd.int .u8) 5 w1 w.heap.size (fun _ => True) (.slice A n c) xs) ∧ Aside0 ((Kd.int .u8).C w1 A n xs) := by
  subst hl
  obtain ⟨A, c, rfl, hc, h2⟩ := Kd.R_reads h
  exact ⟨A, c, rfl, hc, ⟨h⟩, ⟨h2⟩⟩
theorem flp_even (b : Bool) (xs : List Int) (h : xs.length % 2 = 0) : flp b xs = b := by
  have : ∀ (n : Nat) (b : Bool) (xs : List Int), xs.length = n → flp b xs = if n % 2 = 0 then b else !b := by
    intro n
    induction n with
    | zero => intro b xs hx; have := List.length_eq_zero_iff.1 hx; subst this; rfl
    | succ n ih =>
      intro b xs hx
      cases xs with
      | nil => simp at hx
      | cons c r =>
        simp only [flp]
        rw [ih (!b) r (by simpa using hx)]
        rcases Nat.mod_two_eq_zero_or_one n with h | h
        · rw [if_pos h, if_neg (by omega)]
        · rw [if_neg (by omega), if_pos (by omega), Bool.not_not]
  rw [this _ b xs rfl, if_pos h]
theorem sum_closed (xs : List Int) (k : Int) (hb : Bytes xs) (he : xs.length % 2 = 0) (hk : k = 65535 - sumOf [xs]) : sumOf [xs ++ [k / 256, k % 256]] = 65535 := by
  unfold sumOf at *
  rw [List.flatten_singleton] at *
  rw [wsum_append, flp_even false xs he]
  have h0 := (wsum_bounds false xs hb).1
  generalize wsum false xs = n at *
  simp only [wsum]
  unfold fold at *
  split at hk <;> rw [if_neg (by omega)] <;> omega
theorem sum_turned (ys : List Int) (hb : Bytes ys) (hs : sumOf [ys] = 65535) (p : Nat) (hp : p < ys.length) (v : Int) (hv : 0 ≤ v ∧ v ≤ 255) : decide (sumOf [ys.set p v] = 65535) = decide (v = rd ys p) := by
  unfold sumOf at *
  rw [List.flatten_singleton] at *
  rw [wsum_set false ys p v hp]
  have h0 := (wsum_bounds false ys hb).1
  have h2 := bytes_rd ys hb p
  have hn : 0 ≤ wsum false (ys.set p v) := (wsum_bounds false _ (fun c hc => by
    rcases List.mem_or_eq_of_mem_set hc with hc | rfl
    · exact hb c hc
    · exact hv)).1
  rw [wsum_set false ys p v hp] at hn
  generalize wsum false ys = n at *
  generalize rd ys (p : Int) = r at *
  apply decide_eq_decide.2
  have hw : wt false p = 1 ∨ wt false p = 256 := by unfold wt; split <;> simp
  rcases hw with hw | hw <;> rw [hw] at hn ⊢ <;> unfold fold at * <;> split at hs <;> split <;> omega
theorem bytes_set (xs : List Int) (h : Bytes xs) (p : Nat) (v : Int) (hv : 0 ≤ v ∧ v ≤ 255) : Bytes (xs.set p v) := fun c hc => by
  rcases List.mem_or_eq_of_mem_set hc with hc | rfl
  · exact h c hc
  · exact hv
theorem okP_one {xs : List Int} (h : Bytes xs) (hl : xs.length ≤ 140737488353000) : okP [xs] = true := okP_iff.2 ⟨by simp, fun p hp => by simp at hp; subst hp; exact ⟨h, hl⟩⟩
theorem xor_bounds (x y : Int) : 0 ≤ Go.bits .xor .u8 x y ∧ Go.bits .xor .u8 x y ≤ 255 := by
  show 0 ≤ IntKind.u8.wrap _ ∧ IntKind.u8.wrap _ ≤ 255
  rw [IntKind.wrap_u8]
  omega
/-- Sum of one row of the call's own, in a world that has only grown. -/
theorem Sum_grown {w w4 W : World} {g n cap b : Nat} {zs : List Int} {p : Nat} {v r : Int} (HO : w4.ownsRow w.heap.size 5 1 (.slice (some ⟨g, 0, none⟩) n cap) n (nums .u8 zs)) (hcap : n ≤ cap) (hb : W.heap[b]? = some (.cells #[.slice (some ⟨g, 0, none⟩) n cap] 27 (0, 0))) (hB : Below w4.heap.size w4 W) (hp : okP [zs] = true) (hs : sumOf [zs] = r) (hc : w4.cell? ⟨g, p, none⟩ = some (.int .u8 v)) (hw : Below w.heap.size w w4) :
    Calls Try.prog 40 #[.slice (some ⟨b, 0, none⟩) 1 1] W fun e w' => e = .returned (.int .i64 r) ∧ w'.cell? ⟨g, p, none⟩ = some (.int .u8 v) ∧ Below w.heap.size w w' :=
  (Sum_to (l := [zs]) r (parts_one hb (C_of_own (pw_own_below HO hB)) hcap) (by omega) hp hs).mono fun e w' ⟨h1, h2⟩ => ⟨h1, ((below_step hB h2).cell (World.block_lt_of_cell? w4 _ hc)).trans hc, below_step hw (below_step hB h2)⟩

set_option maxRecDepth 100000 in
set_option maxHeartbeats 2000000 in
theorem WireChecked_walk (w : World) (A0 : Option Addr) (c0 : Nat) (l0 : List Int) (hr0 : Kd.C (Kd.int .u8) w A0 l0.length l0) (hc0 : l0.length ≤ c0) (hg0 : Bytes l0 ∧ l0.length ≤ 140737488351232) (a1 : Int) (hg1 : -9223372036854775808 ≤ a1 ∧ a1 ≤ 9223372036854775807) (a2 : Int) (hg2 : 0 ≤ a2 ∧ a2 ≤ 255) :
    Calls Try.prog 6 #[.slice A0 l0.length c0, .int .i64 a1, .int .u8 a2] w fun e w' => e = .returned (.bool true) ∧ Below w.heap.size w w' := by
  obtain ⟨m, hm⟩ : ∃ m : Nat, m = l0.length / 2 * 2 := ⟨_, rfl⟩
  obtain ⟨n0, hn0⟩ : ∃ n : Nat, n = l0.length := ⟨_, rfl⟩
  have hmle : m ≤ n0 := by omega
  have hev : Go.bits .andNot .i64 (n0 : Int) 1 = (m : Int) := by rw [andNot_even n0 (by omega), hm, hn0]
  have hbn0 : n0 ≤ 140737488351232 := by omega
  have hcc0 : n0 ≤ c0 := by omega
  rw [← hn0]
  obtain ⟨xs, hxs⟩ : ∃ xs, xs = l0.take m := ⟨_, rfl⟩
  have hxl : xs.length = m := by rw [hxs, List.length_take]; omega
  have hbx : Bytes xs := by rw [hxs]; exact fun c hc => hg0.1 c (List.mem_of_mem_take hc)
  have HC : Aside0 ((Kd.int .u8).C w A0 m xs) := ⟨by
    have := Kd.C_take hr0 (m := m) (by omega)
    rw [← hxs, hxl] at this
    exact this⟩
  have XL := Aside0.mk hxl
  have BX := Aside0.mk hbx
  have heven : m % 2 = 0 := by omega
  have HE := Aside0.mk heven
  have OX : Aside0 (okP [xs] = true) := ⟨okP_iff.2 ⟨by simp, fun p hp => by simp at hp; subst hp; exact ⟨hbx, by omega⟩⟩⟩
  clear hr0 hg0 hm hn0 hxs hxl hbx heven
  obtain ⟨i0, hi0, hz0, hz1, hz2⟩ := info_parts info5
  go_enter Try.func6, Try.ntmps6
  go_wp2_with (at_builtin; refine Kd.R_append_rows (Kd.int .u8) (w0 := w) w.heap.size rfl (.const (.slice none 0 0)) (.tmp 14) 27 5 (.int .u8 0) 1 rfl Try.underlying27 info5 rfl (by decide) (by omega) (.slice none 0 0) [] xs _ _ _ (fun _ => True) (fun _ => False) rfl rfl (Kd.R_nil _ _ _ _ _) HC.out (fun _ _ h => h) (fun _ h => h.elim) (fun _ _ => trivial) (Below.refl _ _) (Nat.le_refl _) (by simp; omega) ?_; intro v1 w1 ho hb hg hat; clear hg hat; rw [List.nil_append] at ho; obtain ⟨A1, c1, hv, hcap, HO, HR⟩ := own_any XL.out ho; subst hv)
  clear ho hi0 hz0 hz1 hz2 hev
  have HB1 := Aside0.mk hb
  clear hb
  refine (Check_at (l := [xs]) ?_ (by omega) OX.out).mono ?_
  · exact parts_one (blk_at rfl) (Kd.C_alloc HR.out _) (by omega)
  rintro e w2 ⟨rfl, hb2⟩
  have HO2 := Aside0.mk (Kd.R_below (Kd.R_alloc HO.out _) hb2)
  have HB2 := Aside0.mk (below_step (below_alloc HB1.out _) hb2)
  clear hb2 HO HB1 HR
  obtain ⟨k, hk⟩ : ∃ k, k = 65535 - sumOf [xs] := ⟨_, rfl⟩
  have hkb : 0 ≤ k ∧ k ≤ 65535 := by have := sumOf_bounds [xs]; omega
  have KK := Aside0.mk hk
  rw [← hk]
  clear hk
  go_wp2_with (at_builtin; refine Kd.R_append_rows (Kd.int .u8) (w0 := w) w.heap.size rfl (.tmp 19) (.tmp 25) 27 5 (.int .u8 0) 1 rfl Try.underlying27 info5 rfl (by decide) (by omega) (.slice A1 m c1) xs [k / 256, k % 256] _ _ _ (fun _ => True) (fun _ => False) rfl rfl (Kd.R_alloc HO2.out _) (lit_nums (k := .u8) (blk_at rfl) rfl (by omega)) (fun _ _ h => h) (fun _ h => h.elim) (fun _ _ => trivial) (below_alloc HB2.out _) (by have := HB2.out.size; simp; omega) (by have := XL.out; simp; omega) ?_; intro v1 w1 ho hb hg hat; clear hg hat; obtain ⟨g, cap, hv, hgb, hgl, hcap, HO⟩ := own_form_n (n := m + 2) (by have := XL.out; simp; omega) ho (by omega); subst hv)
  clear ho HO2 HB2
  have HB1 := Aside0.mk hb
  clear hb
  obtain ⟨n, hn⟩ : ∃ n, n = m + 2 := ⟨_, rfl⟩
  obtain ⟨ys, hys⟩ : ∃ ys, ys = xs ++ [k / 256, k % 256] := ⟨_, rfl⟩
  have hyl : ys.length = n := by have := XL.out; rw [hys, hn]; simp; omega
  have hyb : Bytes ys := by
    rw [hys]
    intro c hc
    rcases List.mem_append.1 hc with hc | hc
    · exact BX.out c hc
    · simp at hc
      omega
  have hysum : sumOf [ys] = 65535 := by rw [hys]; exact sum_closed xs k BX.out (by have := XL.out; have := HE.out; omega) KK.out
  rw [← hys, ← hn] at HO
  rw [← hn] at hcap
  have hn2 : n ≤ 140737488351234 := by omega
  have hnp : 0 < n := by omega
  rw [← hn]
  clear hn hys KK XL HE OX HC BX hkb hcc0 hbn0 hmle
  have YL := Aside0.mk hyl
  have YB := Aside0.mk hyb
  have YS := Aside0.mk hysum
  clear hyl hyb hysum
  refine (Sum_to (l := [ys]) 65535 (parts_one (blk_at rfl) (Kd.C_alloc (C_of_own HO.out) _) (by omega)) (by omega) (okP_one YB.out (by have := YL.out; omega)) YS.out).mono ?_
  rintro e w3 ⟨rfl, hb3⟩
  have HO3 := Aside0.mk (pw_own_below (own_alloc HO.out _) hb3)
  have HB3 := Aside0.mk (below_step (below_alloc HB1.out _) hb3)
  clear hb3 HO HB1 hgl
  go_upto_region 6 with (fail)
  go_cut [1] (fun v wc => ∃ p : Nat, v = .int .i64 p ∧ p < n ∧ w3 = wc)
  case first =>
    go_wp2
    all_goals go_meet
    case rel =>
      obtain ⟨p, e, h1⟩ := place_in a1 n hnp (by omega)
      exact ⟨p, by rw [e], h1, rfl⟩
  case rest =>
    obtain ⟨p, rfl, hp, rfl⟩ := hcut
    obtain ⟨hc1, hf1⟩ := own_at HO3.out (p : Int) (by omega) (by omega)
    rw [Int.toNat_natCast] at hc1 hf1
    have i1 : (0 : Int) ≤ (p : Int) := by omega
    have i3 : (p : Int) < (n : Int) := by omega
    go_upto_region 9 with (fail)
    obtain ⟨v, hv⟩ : ∃ v, v = bits BinOp.xor IntKind.u8 (rd ys ↑p) a2 := ⟨_, rfl⟩
    have hvb : 0 ≤ v ∧ v ≤ 255 := by rw [hv]; exact xor_bounds _ _
    rw [← hv]
    clear hv hc1 hf1 i1 i3
    have HOS := (own_store HO3.out (p : Int) v).1
    rw [Int.toNat_natCast] at HOS
    have HBS : Below w.heap.size w (w3.setCell ⟨g, p, none⟩ (.int .u8 v)) := HB3.out.setCell hgb _
    obtain ⟨zs, hzs⟩ : ∃ zs, zs = ys.set p v := ⟨_, rfl⟩
    have hzl : zs.length = n := by rw [hzs, List.length_set]; exact YL.out
    have hzb : okP [zs] = true := okP_one (by rw [hzs]; exact bytes_set ys YB.out p v hvb) (by omega)
    have hdec := sum_turned ys YB.out YS.out p (by have := YL.out; omega) v hvb
    obtain ⟨w4, hw4⟩ : ∃ w4, w4 = w3.setCell ⟨g, p, none⟩ (.int .u8 v) := ⟨_, rfl⟩
    rw [← hzs] at hdec HOS
    rw [← hw4] at HOS HBS
    rw [← hw4]
    have hcz := (own_at HOS (p : Int) (by omega) (by omega)).1
    rw [Int.toNat_natCast] at hcz
    have hzr : rd zs (p : Int) = v := by rw [hzs, rdn_set, if_pos ⟨rfl, by have := YL.out; omega⟩]
    rw [hzr] at hcz
    clear hw4 hzr
    obtain ⟨s, hs⟩ : ∃ s, s = sumOf [zs] := ⟨_, rfl⟩
    rw [← hs] at hdec
    obtain ⟨r, hr⟩ : ∃ r, r = rd ys (p : Int) := ⟨_, rfl⟩
    rw [← hr] at hdec ⊢
    have ZO := Aside0.mk HOS
    have ZB := Aside0.mk HBS
    have ZS := Aside0.mk hs.symm
    have ZP := Aside0.mk hzb
    have ZC := Aside0.mk hcz
    clear HOS HBS hs hzb hzs hr hzl HO3 HB3 YL YB YS hvb
    have i1 : (0 : Int) ≤ (p : Int) := by omega
    have i3 : (p : Int) < (n : Int) := by omega
    have hgl := own_lt ZO.out g (by simp [Value.ownBlock])
    have hcz1 : ∀ o, (w4.alloc o).cell? ⟨g, p, none⟩ = some (.int .u8 v) := fun o => ((below_alloc (Below.refl w4.heap.size w4) o).cell (World.block_lt_of_cell? w4 _ hcz)).trans hcz
    have hblk : Aside0 (∀ o, ((w4.alloc o).drew).heap[w4.heap.size]? = some o) := ⟨fun o => heap_alloc_new w4 o⟩
    have hbel : Aside0 (∀ o, Below w4.heap.size w4 (w4.alloc o).drew) := ⟨fun o => below_drew (below_alloc (Below.refl _ _) o)⟩
    by_cases hsd : s = 65535
    · have hvr : v = r := by rw [decide_eq_true hsd] at hdec; exact of_decide_eq_true hdec.symm
      subst hvr
      subst hsd
      clear hdec
      go_region_with (first
        | (go_at_call 42; refine (alive01_at _).mono ?_; rintro e w6 ⟨rfl, hb6⟩)
        | (go_at_call 40; refine (Sum_grown (w := w) (w4 := w4) (zs := zs) (p := p) (v := v) (r := 65535) ZO.out hcap (hblk.out _) (hbel.out _) ZP.out ZS.out ZC.out ZB.out).mono ?_; rintro e w5 ⟨rfl, hc5, hb5⟩))
      all_goals (go_wp2_with fail)
      all_goals go_ret
      all_goals (exact ⟨rfl, below_step hb5 hb6⟩)
    · have hvr : ¬ v = r := by rw [decide_eq_false hsd] at hdec; exact of_decide_eq_false hdec.symm
      have hb1 : (s == 65535) = false := by simp [hsd]
      have hb2 : (v == r) = false := by simp [hvr]
      clear hdec
      go_region_with (first
        | (go_at_call 42; refine (alive01_at _).mono ?_; rintro e w6 ⟨rfl, hb6⟩)
        | (go_at_call 40; refine (Sum_grown (w := w) (w4 := w4) (zs := zs) (p := p) (v := v) (r := s) ZO.out hcap (hblk.out _) (hbel.out _) ZP.out ZS.out ZC.out ZB.out).mono ?_; rintro e w5 ⟨rfl, hc5, hb5⟩))
      all_goals (go_wp2_with fail)
      all_goals go_ret
      all_goals (exact ⟨rfl, below_step hb5 hb6⟩)
end Go.Proofs.Ytgifcmbknkjemaa.Own
