/- What the law Ip4Own rests on, part 19: contracts of the functions that it calls, and plain lemmas. No condition. -/
import Derived.Test.YtgifcmbknkjemaaZIp4Own18
section
namespace Go.Proofs.Ytgifcmbknkjemaa.Own
open Go Go.RowKit Go.Proofs.YtgifcmbknkjemaaW.PrintWords Go.Proofs.YtgifcmbknkjemaaW.PrintLast Go.Proofs.YtgifcmbknkjemaaW.PrintMore
set_option linter.unusedVariables false
set_option linter.unusedSimpArgs false
structure MidP (w : World) (g pb : Nat) (vD : Value) (da : List Int) (cells : Array Value) (wc : World) : Prop where
  g0 : wc.heap[g]? = some (.cells zeroC 55 (0, 0))
  p : wc.heap[pb]? = some (.cells cells 55 (0, 0))
  ne : g < pb
  ge : w.heap.size ≤ g
  hD : Kd.R (Kd.int .u8) 5 wc w.heap.size (fun _ => True) vD da
  hB : Below w.heap.size w wc
theorem MidP.below {w wc wd : World} {g pb : Nat} {vD : Value} {da : List Int} {cells : Array Value} (h : MidP w g pb vD da cells wc) (hb : Below wc.heap.size wc wd) : MidP w g pb vD da cells wd :=
  ⟨(hb.block _ (lt_of_heap h.g0)).trans h.g0, (hb.block _ (lt_of_heap h.p)).trans h.p, h.ne, h.ge, Kd.R_below h.hD hb, below_then h.hB h.hB.size hb⟩
theorem MidP.set {w wc : World} {g pb : Nat} {vD : Value} {da : List Int} {cells : Array Value} (h : MidP w g pb vD da cells wc) (i : Nat) (v : Value) : MidP w g pb vD da (cells.setIfInBounds i v) (wc.setCell ⟨pb, i, none⟩ v) :=
  ⟨(heap_setCell_other wc ⟨pb, i, none⟩ _ v (Nat.ne_of_lt h.ne)).trans h.g0, obj_set h.p i v, h.ne, h.ge, Kd.R_set h.hD h.p (by intro q hq; simp [Kd.int, Kd.scalar] at hq; omega) i v, h.hB.setCell (Nat.le_trans h.ge (Nat.le_of_lt h.ne)) v⟩
theorem MidP.drewN {w wc : World} {g pb : Nat} {vD : Value} {da : List Int} {cells : Array Value} (h : MidP w g pb vD da cells wc) (m : Nat) : MidP w g pb vD da cells (wc.drewN m) := ⟨h.g0, h.p, h.ne, h.ge, Kd.R_move h.hD (fun _ _ => rfl), pw_below_drewN h.hB m⟩
theorem MidP.done {w wc : World} {g pb : Nat} {vD : Value} {da : List Int} {cells cs : Array Value} (h : MidP w g pb vD da cells wc) {r : IpV × Int} (hr : r.1.exts = [] ∧ r.1.data = da) (hcs : cs = ipCells r.1 (.slice none 0 0) vD) : IpPost w r (.returned (.tuple #[.agg cs, .int .i64 r.2])) (wc.setRow g cs) :=
  ⟨.slice none 0 0, vD, by rw [hcs], by rw [hr.1]; exact Kd.R_nil _ _ _ _ _, by rw [hr.2]; exact R_setRow h.hD h.g0 (by intro q hq; simp [Kd.int, Kd.scalar] at hq; omega), below_setRow h.hB h.ge _⟩
theorem u8_and15 (x : Int) (h0 : 0 ≤ x) (h1 : x ≤ 255) : Go.bits .and .u8 x 15 = x % 16 :=
  bits_mask .u8 8 (by decide) (fun n h0 h1 => by rw [IntKind.wrap_u8]; omega) 4 (by decide) x h0 (by omega)
theorem u8_and1 (x : Int) (h0 : 0 ≤ x) (h1 : x ≤ 255) : Go.bits .and .u8 x 1 = x % 2 :=
  bits_mask .u8 8 (by decide) (fun n h0 h1 => by rw [IntKind.wrap_u8]; omega) 1 (by decide) x h0 (by omega)
theorem i64_and8191 (x : Int) (h0 : 0 ≤ x) (h1 : x < 9223372036854775808) : Go.bits .and .i64 x 8191 = x % 8192 :=
  bits_mask .i64 63 (by decide) wraps_i64 13 (by decide) x h0 h1
theorem i64_and1' (x : Int) (h0 : 0 ≤ x) (h1 : x < 9223372036854775808) : Go.bits .and .i64 x 1 = x % 2 :=
  bits_mask .i64 63 (by decide) wraps_i64 1 (by decide) x h0 h1
def rest4 (l : List Int) (hd tot : Nat) (pl : Int) : IpV × Int :=
  if sumOf [l.take hd] ≠ 65535 then (zeroV, 6)
  else if rd l 8 = 0 then (zeroV, 26)
  else if 128 ≤ rd l 6 then (zeroV, 10)
  else if opt4 60 ((l.take hd).drop 20) ≠ 0 then (zeroV, opt4 60 ((l.take hd).drop 20))
  else if pl / 8192 % 2 = 1 ∧ ((tot : Int) - hd) % 8 ≠ 0 then (zeroV, 5)
  else if 65515 < pl % 8192 * 8 + ((tot : Int) - hd) then (zeroV, 11)
  else if pl / 8192 % 2 = 1 ∨ 0 < pl % 8192 then
    (⟨4, addrOf ((l.drop 12).take 4), addrOf ((l.drop 16).take 4), rd l 9, rd l 8, true, u16 l 4, pl % 8192 * 8, decide (pl / 8192 % 2 = 1), [], (l.take tot).drop hd⟩, 0)
  else (⟨4, addrOf ((l.drop 12).take 4), addrOf ((l.drop 16).take 4), rd l 9, rd l 8, false, 0, 0, false, [], (l.take tot).drop hd⟩, 0)
theorem parse4_by {l : List Int} {hd tot : Nat} {pl : Int} (h1 : rd l 0 % 16 * 4 = hd) (h2 : u16 l 2 = tot) (h3 : u16 l 6 = pl) :
    parse4 l = if l.length < 20 then (zeroV, 2) else if rd l 0 / 16 ≠ 4 then (zeroV, 3) else if hd < 20 ∨ l.length < hd then (zeroV, 4) else if tot < hd ∨ l.length < tot then (zeroV, 5) else rest4 l hd tot pl := by
  unfold parse4 rest4
  rw [h1, h2, h3]
  simp only [Int.toNat_natCast, Int.ofNat_lt]
  have e : ((hd : Int) < 20) ↔ hd < 20 := by omega
  simp only [e]
theorem rSum_at {A : Option Addr} {c n : Nat} {l : List (List Int)} {w : World} (hr : (Kd.slice 5 (Kd.int .u8)).C w A n l) (hc : n ≤ c) (hp : okP l = true) :
    Calls Try.prog 39 #[.slice A n c] w fun e w' => e = .returned (.int .i64 (sumOf l)) ∧ Below w.heap.size w w' := by
  have hn : l.length = n := hr.1
  subst hn
  exact (stockaderef01_Sum.calls A c l _ w hr hc (by unfold stockaderef01_Sum.f; rw [if_pos hp])).mono fun e w' h => ⟨h.1, h.2.below⟩
set_option maxHeartbeats 4000000 in
set_option maxRecDepth 100000 in
theorem rParse4_at {w : World} {A : Option Addr} {n c : Nat} {l : List Int} (hr : (Kd.int .u8).C w A n l) (hc : n ≤ c) (hby : Bytes l) (hn : n ≤ 140737488355000) :
    Calls Try.prog 65 #[.slice A n c] w (IpPost w (parse4 l)) := by
  have hnl : l.length = n := hr.1
  by_cases h20 : n < 20
  · have hp : parse4 l = (zeroV, 2) := by unfold parse4; rw [if_pos (by omega)]
    rw [hp]
    clear hp hr hby hnl
    go_enter Try.func65, Try.ntmps65
    go_wp2_with (refine wpList_store_new rfl 55 (.tmp 2) (.tmp 18) rfl _ zeroC rfl rfl (by kernel_rfl) rfl zeroC_one ?_)
    refine bodyPost_ret (results_cell_tmp rfl _ _ w.heap.size 55 zeroC (0, 0) _ (.int .i64 2) rfl rfl (blk_at rfl) Try.underlying55 rfl (by kernel_rfl)) rfl ?_
    exact fail_post (g := 0) 2 (below_alloc (Below.refl _ _) _)
  · obtain ⟨ad, rfl, a0⟩ := Kd.at_int hr 0 (by omega) (by omega)
    obtain ⟨_, h6, a6⟩ := Kd.at_int hr 6 (by omega) (by omega)
    obtain rfl := Option.some.inj h6
    obtain ⟨_, h8, a8⟩ := Kd.at_int hr 8 (by omega) (by omega)
    obtain rfl := Option.some.inj h8
    obtain ⟨_, h9, a9⟩ := Kd.at_int hr 9 (by omega) (by omega)
    obtain rfl := Option.some.inj h9
    rw [show ((0 : Int)).toNat = 0 from rfl, Addr.add_zero'] at a0
    rw [show ((6 : Int)).toNat = 6 from rfl, add_at _ _ (by omega)] at a6
    rw [show ((8 : Int)).toNat = 8 from rfl, add_at _ _ (by omega)] at a8
    rw [show ((9 : Int)).toNat = 9 from rfl, add_at _ _ (by omega)] at a9
    have b0 := rd_byte hby 0
    have b6 := rd_byte hby 6
    have b7 := rd_byte hby (6 + 1)
    have b8 := rd_byte hby 8
    have b9 := rd_byte hby 9
    have u2 := u16_bounds hby 2
    have u6 := u16_bounds hby 6
    have u4 := u16_bounds hby 4
    obtain ⟨hd, hhd⟩ : ∃ hd : Nat, rd l 0 % 16 * 4 = (hd : Int) := ⟨(rd l 0 % 16 * 4).toNat, by omega⟩
    obtain ⟨tot, htot⟩ : ∃ t : Nat, u16 l 2 = (t : Int) := ⟨(u16 l 2).toNat, by omega⟩
    obtain ⟨pl, hpl⟩ : ∃ p, u16 l 6 = p := ⟨_, rfl⟩
    have hp := parse4_by hhd htot hpl
    rw [if_neg (by omega), hnl] at hp
    have hpl6 : pl / 256 = rd l 6 := by rw [← hpl]; unfold u16; omega
    obtain ⟨v0, hv0⟩ : ∃ v, v = rd l 0 := ⟨_, rfl⟩
    rw [← hv0] at a0 b0 hp hhd
    obtain ⟨RES, hRES⟩ : ∃ R, R = parse4 l := ⟨_, rfl⟩
    rw [← hRES] at hp ⊢
    have HP0 := Aside0.mk hp
    have H63 : Aside0 (∀ (W : World) (a : Int), Below w.heap.size w W → 0 ≤ a → a + 2 ≤ 20 → Calls Try.prog 63 #[.slice (some ad) n c, .int .i64 a] W fun e w' => e = .returned (.tuple #[.int .i64 (u16 l a), .bool true]) ∧ Below W.heap.size W w') :=
      ⟨fun W a hW h0 h2 => rU16_at a (Kd.C_below hr hW) hc hby hn h0 (by omega)⟩
    have HR := Aside0.mk (And.intro hr (And.intro hby hnl))
    have HA := Aside0.mk (And.intro a6 (And.intro a8 a9))
    have hn20 : (20 : Int) ≤ (n : Int) := by omega
    have x1 : Go.bits .and .u8 v0 15 = v0 % 16 := u8_and15 v0 b0.1 b0.2
    have x2 : IntKind.i64.wrap (v0 % 16) = v0 % 16 := wraps_i64 _ (by omega) (by omega)
    have x3 : IntKind.i64.wrap (v0 % 16 * 4) = (hd : Int) := by rw [wraps_i64 _ (by omega) (by omega)]; exact hhd
    have X := Aside0.mk (And.intro htot (And.intro hpl (And.intro hpl6 (And.intro hv0 hhd))))
    have hd60 : hd ≤ 60 := by omega
    have ht : tot ≤ 65535 := by omega
    clear hp hRES hr hby hnl a6 a8 a9 h20 htot hpl hpl6 hv0 hhd
    have ha0 : ∀ o, (w.alloc o).cell? ad = some (.int .u8 v0) := fun o => pw_cell_below (below_alloc (Below.refl _ _) o) a0
    by_cases z1 : v0 / 16 ≠ 4
    · have HRC : Aside0 (RES = (zeroV, 3)) := ⟨by rw [HP0.out, if_pos z1]⟩
      have y1 : (v0 / 16 != 4) = true := by simpa using z1
      clear z1 x1 x2 x3
      go_enter Try.func65, Try.ntmps65
      go_wp2_with (refine wpList_store_new rfl 55 (.tmp 2) (.tmp 24) rfl _ zeroC rfl rfl (by kernel_rfl) rfl zeroC_one ?_)
      refine bodyPost_ret (results_cell_tmp rfl _ _ w.heap.size 55 zeroC (0, 0) _ (.int .i64 3) rfl rfl (blk_at rfl) Try.underlying55 rfl (by kernel_rfl)) rfl ?_
      rw [HRC.out]
      exact fail_post (g := 0) 3 (below_alloc (Below.refl _ _) _)
    have HP1 : Aside0 (RES = if hd < 20 ∨ n < hd then (zeroV, 4) else if tot < hd ∨ n < tot then (zeroV, 5) else rest4 l hd tot pl) := ⟨by rw [HP0.out, if_neg z1]⟩
    have y1 : (v0 / 16 != 4) = false := by simpa using z1
    clear z1 HP0
    go_enter Try.func65, Try.ntmps65
    go_upto_region 6 with (fail)
    by_cases z2 : hd < 20 ∨ n < hd
    · have HRC : Aside0 (RES = (zeroV, 4)) := ⟨by rw [HP1.out, if_pos z2]⟩
      by_cases z3 : hd < 20
      · have q1 : (hd : Int) < 20 := by omega
        clear z2 z3 x1 x2 x3
        go_wp2_with (refine wpList_store_new rfl 55 (.tmp 2) (.tmp 39) rfl _ zeroC rfl rfl (by kernel_rfl) rfl zeroC_one ?_)
        refine bodyPost_ret (results_cell_tmp rfl _ _ w.heap.size 55 zeroC (0, 0) _ (.int .i64 4) rfl rfl (blk_at rfl) Try.underlying55 rfl (by kernel_rfl)) rfl ?_
        rw [HRC.out]
        exact fail_post (g := 0) 4 (below_alloc (Below.refl _ _) _)
      · have q1 : (20 : Int) ≤ (hd : Int) := by omega
        have q2 : (n : Int) < (hd : Int) := by omega
        clear z2 z3 x1 x2 x3
        go_wp2_with (refine wpList_store_new rfl 55 (.tmp 2) (.tmp 39) rfl _ zeroC rfl rfl (by kernel_rfl) rfl zeroC_one ?_)
        refine bodyPost_ret (results_cell_tmp rfl _ _ w.heap.size 55 zeroC (0, 0) _ (.int .i64 4) rfl rfl (blk_at rfl) Try.underlying55 rfl (by kernel_rfl)) rfl ?_
        rw [HRC.out]
        exact fail_post (g := 0) 4 (below_alloc (Below.refl _ _) _)
    have HP2 : Aside0 (RES = if tot < hd ∨ n < tot then (zeroV, 5) else rest4 l hd tot pl) := ⟨by rw [HP1.out, if_neg z2]⟩
    have hd20 : (20 : Int) ≤ (hd : Int) := by omega
    have hdn : (hd : Int) ≤ (n : Int) := by omega
    clear z2 HP1 x1 x2 x3 ha0
    go_wp2_with (fail)
    have h63 := H63.out _ 2 (below_alloc (Below.refl w.heap.size w) (.cells zeroC 55)) (by omega) (by omega)
    rw [X.out.1] at h63
    refine h63.mono ?_
    rintro e1 w1 ⟨rfl, hb1⟩
    have HG : Aside0 (w1.heap[w.heap.size]? = some (.cells zeroC 55 (0, 0))) := ⟨(hb1.block _ (by rw [size_alloc']; omega)).trans (blk_at rfl)⟩
    have HB : Aside0 (Below w.heap.size w w1) := ⟨below_then (below_alloc (Below.refl _ _) _) (by rw [size_alloc']; omega) hb1⟩
    clear h63 hb1
    by_cases z2 : tot < hd ∨ n < tot
    · have HRC : Aside0 (RES = (zeroV, 5)) := ⟨by rw [HP2.out, if_pos z2]⟩
      by_cases z3 : tot < hd
      · have q1 : (tot : Int) < (hd : Int) := by omega
        clear z2 z3
        go_wp2_with (refine wpList_store_row rfl 55 (.tmp 2) (.tmp 54) rfl w.heap.size zeroC rfl rfl 55 zeroC HG.out (by kernel_rfl) rfl zeroC_one ?_)
        refine bodyPost_ret (results_cell_tmp rfl _ _ w.heap.size 55 zeroC (0, 0) _ (.int .i64 5) rfl rfl (setRow_heap _ _ _ _ _ _ HG.out) Try.underlying55 rfl (by kernel_rfl)) rfl ?_
        rw [HRC.out]
        exact fail_post (g := 0) 5 (below_setRow HB.out (Nat.le_refl _) _)
      · have q1 : (hd : Int) ≤ (tot : Int) := by omega
        have q2 : (n : Int) < (tot : Int) := by omega
        clear z2 z3
        go_wp2_with (refine wpList_store_row rfl 55 (.tmp 2) (.tmp 54) rfl w.heap.size zeroC rfl rfl 55 zeroC HG.out (by kernel_rfl) rfl zeroC_one ?_)
        refine bodyPost_ret (results_cell_tmp rfl _ _ w.heap.size 55 zeroC (0, 0) _ (.int .i64 5) rfl rfl (setRow_heap _ _ _ _ _ _ HG.out) Try.underlying55 rfl (by kernel_rfl)) rfl ?_
        rw [HRC.out]
        exact fail_post (g := 0) 5 (below_setRow HB.out (Nat.le_refl _) _)
    have HP3 : Aside0 (RES = rest4 l hd tot pl) := ⟨by rw [HP2.out, if_neg z2]⟩
    have hdt : (hd : Int) ≤ (tot : Int) := by omega
    have htn : (tot : Int) ≤ (n : Int) := by omega
    clear z2 HP2
    obtain ⟨S, hS⟩ : ∃ S, S = sumOf [l.take hd] := ⟨_, rfl⟩
    have HS := Aside0.mk hS
    have hcut : ∀ W : World, (Instr.slice 27 (.slice (some ad) n c) none (some (.int .i64 (hd : Int))) none).run Try.prog W = .ok (.slice (some ad) hd c) W := by
      obtain ⟨i0, hi0, _, hsz0, _⟩ := info_parts info5
      have h := cut_to (P := Try.prog) 27 5 .i64 Try.underlying27 hi0 (some ad) n c (hd : Int) (by omega) (by omega) hc
      rw [Int.toNat_natCast] at h
      exact h
    have HCUT := Aside0.mk hcut
    have hsum : ∀ W, Below w1.heap.size w1 W → W.heap[w1.heap.size]? = some (.cells #[.slice (some ad) hd c] 27 (0, 0)) → Calls Try.prog 39 #[.slice (some ⟨w1.heap.size, 0, none⟩) 1 1] W fun e w' => e = .returned (.int .i64 S) ∧ Below W.heap.size W w' := fun W hW hl => by
      rw [hS]
      exact rSum_at (parts_one hl (C_takeN (Kd.C_below HR.out.1 (below_then HB.out HB.out.size hW)) hd (by omega)) (by omega)) (by omega) (okP_iff.2 ⟨by simp, fun q hq => by
        simp at hq
        subst hq
        exact ⟨fun y hy => HR.out.2.1 y (List.mem_of_mem_take hy), by rw [List.length_take]; omega⟩⟩)
    have HSUM := Aside0.mk hsum
    clear hS hsum
    by_cases z1 : S ≠ 65535
    · have HRC : Aside0 (RES = (zeroV, 6)) := ⟨by rw [HP3.out]; unfold rest4; rw [if_pos (by rw [← HS.out]; exact z1)]⟩
      have y2 : (S != 65535) = true := by simpa using z1
      clear z1
      go_wp2_with (first | (go_at_call 39; refine (HSUM.out _ (below_alloc (Below.refl _ _) _) (blk_at rfl)).mono ?_; rintro e2 w2 ⟨rfl, hb2⟩; have HG2 := Aside0.mk ((hb2.block _ (by rw [size_alloc']; have := lt_of_heap HG.out; omega)).trans (blk_alloc HG.out _)); have HB2 := Aside0.mk (below_then (below_alloc HB.out (.cells #[.slice (some ad) hd c] 27)) (by rw [size_alloc']; have := HB.out.size; omega) hb2); clear hb2) | (refine wpList_store_row rfl 55 (.tmp 2) (.tmp 61) rfl w.heap.size zeroC rfl rfl 55 zeroC HG2.out (by kernel_rfl) rfl zeroC_one ?_))
      refine bodyPost_ret (results_cell_tmp rfl _ _ w.heap.size 55 zeroC (0, 0) _ (.int .i64 6) rfl rfl (setRow_heap _ _ _ _ _ _ HG2.out) Try.underlying55 rfl (by kernel_rfl)) rfl ?_
      rw [HRC.out]
      exact fail_post (g := 0) 6 (below_setRow HB2.out (Nat.le_refl _) _)
    have y2 : (S != 65535) = false := by simpa using z1
    obtain ⟨v8, hv8⟩ : ∃ v, v = rd l 8 := ⟨_, rfl⟩
    obtain ⟨v6, hv6⟩ : ∃ v, v = rd l 6 := ⟨_, rfl⟩
    obtain ⟨v9, hv9⟩ : ∃ v, v = rd l 9 := ⟨_, rfl⟩
    have HA' := HA.out
    rw [← hv6, ← hv8, ← hv9] at HA'
    rw [← hv8] at b8
    rw [← hv6] at b6
    rw [← hv9] at b9
    have hpl6 : pl / 256 = v6 := by rw [hv6]; exact X.out.2.2.1
    obtain ⟨E, hE⟩ : ∃ E, E = opt4 60 ((l.take hd).drop 20) := ⟨_, rfl⟩
    have HP4 : Aside0 (RES = if v8 = 0 then (zeroV, 26) else if 128 ≤ v6 then (zeroV, 10) else if E ≠ 0 then (zeroV, E) else if pl / 8192 % 2 = 1 ∧ ((tot : Int) - hd) % 8 ≠ 0 then (zeroV, 5)
      else if 65515 < pl % 8192 * 8 + ((tot : Int) - hd) then (zeroV, 11)
      else if pl / 8192 % 2 = 1 ∨ 0 < pl % 8192 then (⟨4, addrOf ((l.drop 12).take 4), addrOf ((l.drop 16).take 4), v9, v8, true, u16 l 4, pl % 8192 * 8, decide (pl / 8192 % 2 = 1), [], (l.take tot).drop hd⟩, 0)
      else (⟨4, addrOf ((l.drop 12).take 4), addrOf ((l.drop 16).take 4), v9, v8, false, 0, 0, false, [], (l.take tot).drop hd⟩, 0)) := ⟨by rw [HP3.out]; unfold rest4; rw [if_neg (by rw [← HS.out]; exact z1), ← hv6, ← hv8, ← hv9, ← hE]⟩
    obtain ⟨A', hA'⟩ : ∃ A', A' = (if c = 20 then some ad else (some ad).map (·.add (20 * 1))) := ⟨_, rfl⟩
    have hcut2 : ∀ W : World, (Instr.slice 27 (.slice (some ad) n c) (some (.int .i64 20)) (some (.int .i64 (hd : Int))) none).run Try.prog W = .ok (.slice A' (hd - 20) (c - 20)) W := by
      obtain ⟨i0, hi0, _, hsz0, _⟩ := info_parts info5
      have h := cut_mid (P := Try.prog) 27 5 .i64 .i64 Try.underlying27 hi0 1 hsz0 (some ad) n c 20 (hd : Int) (by omega) (by omega) (by omega) hc
      rw [show (20 : Int).toNat = 20 from rfl, Int.toNat_natCast] at h
      rw [hA']
      exact h
    have hopt : ∀ W, Below w.heap.size w W → Calls Try.prog 114 #[.slice A' (hd - 20) (c - 20)] W fun e w' => e = .returned (.int .i64 E) ∧ ∃ m, w' = W.drewN m := fun W hW => by
      have h1 := C_midN (Kd.C_below HR.out.1 hW) hc 20 (hd - 20) (by omega)
      rw [← hA', show (l.drop 20).take (hd - 20) = (l.take hd).drop 20 by rw [List.drop_take]] at h1
      rw [hE]
      exact rOpt4_at h1 (by omega) (fun y hy => HR.out.2.1 y (List.mem_of_mem_take (List.mem_of_mem_drop hy))) (by omega)
    have HOPT := Aside0.mk hopt
    have HV := Aside0.mk (And.intro hv8 (And.intro hv6 (And.intro hv9 hE)))
    have HAA := Aside0.mk HA'
    clear z1 HP3 hv8 hv6 hv9 hE hA' hopt HA' HA HS
    go_wp2_with (fail)
    refine (HSUM.out _ (below_alloc (Below.refl _ _) _) (blk_at rfl)).mono ?_
    rintro e2 w2 ⟨rfl, hb2⟩
    have HG2 := Aside0.mk ((hb2.block _ (by rw [size_alloc']; have := lt_of_heap HG.out; omega)).trans (blk_alloc HG.out _))
    have HB2 := Aside0.mk (below_then (below_alloc HB.out (.cells #[.slice (some ad) hd c] 27)) (by rw [size_alloc']; have := HB.out.size; omega) hb2)
    have g8 := pw_cell_at HB2.out HAA.out.2.1
    have g6 := pw_cell_at HB2.out HAA.out.1
    clear hb2 HSUM
    by_cases z1 : v8 = 0
    · have HRC : Aside0 (RES = (zeroV, 26)) := ⟨by rw [HP4.out, if_pos z1]⟩
      have y3 : (v8 == 0) = true := by simpa using z1
      clear z1
      go_wp2_with (refine wpList_store_row rfl 55 (.tmp 2) (.tmp 66) rfl w.heap.size zeroC rfl rfl 55 zeroC HG2.out (by kernel_rfl) rfl zeroC_one ?_)
      refine bodyPost_ret (results_cell_tmp rfl _ _ w.heap.size 55 zeroC (0, 0) _ (.int .i64 26) rfl rfl (setRow_heap _ _ _ _ _ _ HG2.out) Try.underlying55 rfl (by kernel_rfl)) rfl ?_
      rw [HRC.out]
      exact fail_post (g := 0) 26 (below_setRow HB2.out (Nat.le_refl _) _)
    have y3 : (v8 == 0) = false := by simpa using z1
    by_cases z2 : 128 ≤ v6
    · have HRC : Aside0 (RES = (zeroV, 10)) := ⟨by rw [HP4.out, if_neg z1, if_pos z2]⟩
      have y4 : (v6 / 128 == 1) = true := by
        simp
        omega
      clear z1 z2
      go_wp2_with (refine wpList_store_row rfl 55 (.tmp 2) (.tmp 72) rfl w.heap.size zeroC rfl rfl 55 zeroC HG2.out (by kernel_rfl) rfl zeroC_one ?_)
      refine bodyPost_ret (results_cell_tmp rfl _ _ w.heap.size 55 zeroC (0, 0) _ (.int .i64 10) rfl rfl (setRow_heap _ _ _ _ _ _ HG2.out) Try.underlying55 rfl (by kernel_rfl)) rfl ?_
      rw [HRC.out]
      exact fail_post (g := 0) 10 (below_setRow HB2.out (Nat.le_refl _) _)
    have y4 : (v6 / 128 == 1) = false := by
      simp
      omega
    have HP5 : Aside0 (RES = if E ≠ 0 then (zeroV, E) else if pl / 8192 % 2 = 1 ∧ ((tot : Int) - hd) % 8 ≠ 0 then (zeroV, 5)
      else if 65515 < pl % 8192 * 8 + ((tot : Int) - hd) then (zeroV, 11)
      else if pl / 8192 % 2 = 1 ∨ 0 < pl % 8192 then (⟨4, addrOf ((l.drop 12).take 4), addrOf ((l.drop 16).take 4), v9, v8, true, u16 l 4, pl % 8192 * 8, decide (pl / 8192 % 2 = 1), [], (l.take tot).drop hd⟩, 0)
      else (⟨4, addrOf ((l.drop 12).take 4), addrOf ((l.drop 16).take 4), v9, v8, false, 0, 0, false, [], (l.take tot).drop hd⟩, 0)) := ⟨by rw [HP4.out, if_neg z1, if_neg z2]⟩
    clear z1 z2 HP4
    go_upto_region 18 with (go_at_call 114; refine (HOPT.out _ HB2.out).mono ?_; rintro e3 w3 ⟨rfl, m3, rfl⟩; have HG3 := Aside0.mk (show (w2.drewN m3).heap[w.heap.size]? = some (.cells zeroC 55 (0, 0)) from HG2.out); have HB3 := Aside0.mk (pw_below_drewN HB2.out m3))
    by_cases z1 : E ≠ 0
    · have HRC : Aside0 (RES = (zeroV, E)) := ⟨by rw [HP5.out, if_pos z1]⟩
      have y5 : (E != 0) = true := by simpa using z1
      clear z1
      go_wp2_with (refine wpList_store_row rfl 55 (.tmp 2) (.tmp 79) rfl w.heap.size zeroC rfl rfl 55 zeroC HG3.out (by kernel_rfl) rfl zeroC_one ?_)
      refine bodyPost_ret (results_cell_tmp rfl _ _ w.heap.size 55 zeroC (0, 0) _ (.int .i64 E) rfl rfl (setRow_heap _ _ _ _ _ _ HG3.out) Try.underlying55 rfl (by kernel_rfl)) rfl ?_
      rw [HRC.out]
      exact fail_post (g := 0) E (below_setRow HB3.out (Nat.le_refl _) _)
    have y5 : (E != 0) = false := by simpa using z1
    have HP6 : Aside0 (RES = if pl / 8192 % 2 = 1 ∧ ((tot : Int) - hd) % 8 ≠ 0 then (zeroV, 5)
      else if 65515 < pl % 8192 * 8 + ((tot : Int) - hd) then (zeroV, 11)
      else if pl / 8192 % 2 = 1 ∨ 0 < pl % 8192 then (⟨4, addrOf ((l.drop 12).take 4), addrOf ((l.drop 16).take 4), v9, v8, true, u16 l 4, pl % 8192 * 8, decide (pl / 8192 % 2 = 1), [], (l.take tot).drop hd⟩, 0)
      else (⟨4, addrOf ((l.drop 12).take 4), addrOf ((l.drop 16).take 4), v9, v8, false, 0, 0, false, [], (l.take tot).drop hd⟩, 0)) := ⟨by rw [HP5.out, if_neg z1]⟩
    clear z1 HP5
    go_wp2_with (fail)
    have h63 := H63.out (w2.drewN m3) 6 HB3.out (by omega) (by omega)
    rw [X.out.2.1] at h63
    refine h63.mono ?_
    rintro e4 w4 ⟨rfl, hb4⟩
    have HG4 : Aside0 (w4.heap[w.heap.size]? = some (.cells zeroC 55 (0, 0))) := ⟨(hb4.block _ (lt_of_heap HG3.out)).trans HG3.out⟩
    have HB4 : Aside0 (Below w.heap.size w w4) := ⟨below_then HB3.out HB3.out.size hb4⟩
    clear h63 hb4 HG3 HB3 HG2 HB2 g8 g6 HG HB HOPT hcut2
    have g6 := pw_cell_at HB4.out HAA.out.1
    have upl : 0 ≤ pl ∧ pl ≤ 65535 := by rw [← X.out.2.1]; exact u6
    obtain ⟨off, hoff⟩ : ∃ o, pl % 8192 * 8 = o := ⟨_, rfl⟩
    have HOFF := Aside0.mk hoff
    obtain ⟨idn, hidn⟩ : ∃ i, i = u16 l 4 := ⟨_, rfl⟩
    rw [← hidn] at u4
    have HIDN := Aside0.mk hidn
    clear hidn
    have off0 : (0 : Int) ≤ off := by omega
    have off1 : off ≤ 65528 := by omega
    have x4 : Go.bits .and .i64 pl 8191 = pl % 8192 := i64_and8191 pl upl.1 (by omega)
    have x5 : IntKind.i64.wrap (pl % 8192 * 8) = off := by rw [wraps_i64 _ (by omega) (by omega)]; exact hoff
    have x6 : Go.bits .and .u8 (v6 / 32) 1 = v6 / 32 % 2 := u8_and1 _ (by omega) (by omega)
    have hm2 : v6 / 32 % 2 = pl / 8192 % 2 := by rw [← hpl6]; omega
    have HPL := Aside0.mk hpl6
    have HP7 : Aside0 (RES = if pl / 8192 % 2 = 1 ∧ ((tot : Int) - hd) % 8 ≠ 0 then (zeroV, 5)
      else if 65515 < off + ((tot : Int) - hd) then (zeroV, 11)
      else if pl / 8192 % 2 = 1 ∨ 0 < off then (⟨4, addrOf ((l.drop 12).take 4), addrOf ((l.drop 16).take 4), v9, v8, true, u16 l 4, off, decide (pl / 8192 % 2 = 1), [], (l.take tot).drop hd⟩, 0)
      else (⟨4, addrOf ((l.drop 12).take 4), addrOf ((l.drop 16).take 4), v9, v8, false, 0, 0, false, [], (l.take tot).drop hd⟩, 0)) := ⟨by
        rw [HP6.out, hoff]
        have : (0 < pl % 8192) ↔ 0 < off := by omega
        simp only [this]⟩
    clear hoff hpl6 HP6
    by_cases zm : pl / 8192 % 2 = 1
    · have y6 : (v6 / 32 % 2 == 1) = true := by
        rw [hm2]
        simpa using zm
      by_cases z5 : ((tot : Int) - hd) % 8 ≠ 0
      · have HRC : Aside0 (RES = (zeroV, 5)) := ⟨by rw [HP7.out, if_pos ⟨zm, z5⟩]⟩
        have y7 : (((tot : Int) - (hd : Int)) % 8 != 0) = true := by simpa using z5
        clear zm z5 hm2
        go_wp2_with (refine wpList_store_row rfl 55 (.tmp 2) (.tmp 103) rfl w.heap.size zeroC rfl rfl 55 zeroC HG4.out (by kernel_rfl) rfl zeroC_one ?_)
        refine bodyPost_ret (results_cell_tmp rfl _ _ w.heap.size 55 zeroC (0, 0) _ (.int .i64 5) rfl rfl (setRow_heap _ _ _ _ _ _ HG4.out) Try.underlying55 rfl (by kernel_rfl)) rfl ?_
        rw [HRC.out]
        exact fail_post (g := 0) 5 (below_setRow HB4.out (Nat.le_refl _) _)
      have y7 : (((tot : Int) - (hd : Int)) % 8 != 0) = false := by simpa using z5
      have HP8 : Aside0 (RES = if 65515 < off + ((tot : Int) - hd) then (zeroV, 11) else (⟨4, addrOf ((l.drop 12).take 4), addrOf ((l.drop 16).take 4), v9, v8, true, u16 l 4, off, true, [], (l.take tot).drop hd⟩, 0)) := ⟨by rw [HP7.out, if_neg (fun h => z5 h.2), if_pos (Or.inl zm), decide_eq_true zm]⟩
      clear zm z5 hm2
      by_cases z6 : 65515 < off + ((tot : Int) - hd)
      · have HRC : Aside0 (RES = (zeroV, 11)) := ⟨by rw [HP8.out, if_pos z6]⟩
        have q6 : 65515 < off + (tot : Int) - (hd : Int) := by omega
        clear z6
        go_wp2_with (refine wpList_store_row rfl 55 (.tmp 2) (.tmp 110) rfl w.heap.size zeroC rfl rfl 55 zeroC HG4.out (by kernel_rfl) rfl zeroC_one ?_)
        refine bodyPost_ret (results_cell_tmp rfl _ _ w.heap.size 55 zeroC (0, 0) _ (.int .i64 11) rfl rfl (setRow_heap _ _ _ _ _ _ HG4.out) Try.underlying55 rfl (by kernel_rfl)) rfl ?_
        rw [HRC.out]
        exact fail_post (g := 0) 11 (below_setRow HB4.out (Nat.le_refl _) _)
      have HP9 : Aside0 (RES = (⟨4, addrOf ((l.drop 12).take 4), addrOf ((l.drop 16).take 4), v9, v8, true, u16 l 4, off, true, [], (l.take tot).drop hd⟩, 0)) := ⟨by rw [HP8.out, if_neg z6]⟩
      have q6 : off + (tot : Int) - (hd : Int) ≤ 65515 := by omega
      clear z6 HP8 HP7
      go_upto_region 27 with (fail)
      have g8 := pw_cell_at HB4.out HAA.out.2.1
      have g9 := pw_cell_at HB4.out HAA.out.2.2
      have w8 : IntKind.i64.wrap v8 = v8 := wraps_i64 _ (by omega) (by omega)
      have w9 : IntKind.i64.wrap v9 = v9 := wraps_i64 _ (by omega) (by omega)
      have r8 : (8 : Int) < (n : Int) := by omega
      have r9 : (9 : Int) < (n : Int) := by omega
      clear g6 x4 x5 x6 hcut y1 y2 y3 y4 y5 y6
      have hlw := lt_of_heap HG4.out
      have kd8 : w4.drew.cell? ⟨ad.block, ad.off + 8, none⟩ = some (.int .u8 v8) := g8
      have kd9 : w4.drew.cell? ⟨ad.block, ad.off + 9, none⟩ = some (.int .u8 v9) := g9
      have ka8 : ∀ o, (w4.alloc o).drew.cell? ⟨ad.block, ad.off + 8, none⟩ = some (.int .u8 v8) := fun o => pw_cell_below (below_alloc (Below.refl _ _) o) g8
      have ka9 : ∀ o, (w4.alloc o).drew.cell? ⟨ad.block, ad.off + 9, none⟩ = some (.int .u8 v9) := fun o => pw_cell_below (below_alloc (Below.refl _ _) o) g9
      go_cut [12] (fun v wc => v = .pointer (some ⟨w4.heap.size, 0, none⟩) ∧ Aside0 (MidP w w.heap.size w4.heap.size (.slice none 0 0) [] (ipCells ⟨4, (0, 0, 0), (0, 0, 0), v9, v8, false, 0, 0, false, [], []⟩ (.slice none 0 0) (.slice none 0 0)) wc))
      case first =>
        go_region_held3 (fun w' => w'.cell? ⟨ad.block, ad.off + 8, none⟩ = some (.int .u8 v8) ∧ w'.cell? ⟨ad.block, ad.off + 9, none⟩ = some (.int .u8 v9)) (first | with_reducible exact ⟨kd8, kd9⟩ | with_reducible exact ⟨ka8 _, ka9 _⟩) ((fail))
        go_wp2
        go_meet
        case rel => exact ⟨rfl, ⟨⟨blk_alloc HG4.out _, blk_at rfl, hlw, Nat.le_refl _, Kd.R_nil _ _ _ _ _, below_drew (below_alloc HB4.out _)⟩⟩⟩
      case rest =>
        obtain ⟨rfl, M1⟩ := hcut
        have hF : ∀ (o : Nat), 0 < o → o + 4 ≤ 20 → ∀ W, Below w.heap.size w W → Calls Try.prog 103 #[.slice (some ⟨ad.block, ad.off + o, none⟩) 4 (c - o)] W fun e w' => e = .returned (.tuple #[.agg #[.int .i64 (fromA ((l.drop o).take 4)).1, .int .u64 (fromA ((l.drop o).take 4)).2.1, .int .u64 (fromA ((l.drop o).take 4)).2.2.1], .int .i64 (fromA ((l.drop o).take 4)).2.2.2]) ∧ Below W.heap.size W w' := fun o ho ho2 W hW => by
          have h := C_midN HR.out.1 hc o 4 (by omega)
          rw [if_neg (by omega), Option.map_some, Nat.mul_one, add_at _ _ ho] at h
          exact rFrom_at (Kd.C_below h hW) (by omega) (fun y hy => HR.out.2.1 y (List.mem_of_mem_drop (List.mem_of_mem_take hy)))
        have hF12 := hF 12 (by omega) (by omega) wc M1.out.hB
        have HF16 := Aside0.mk (hF 16 (by omega) (by omega))
        clear hF kd8 kd9 ka8 ka9 g8 g9 HG4 HB4
        obtain ⟨pb, hpb⟩ : ∃ pb, pb = w4.heap.size := ⟨_, rfl⟩
        rw [← hpb] at M1 ⊢
        clear hpb hlw
        go_wp2_with (fail)
        refine hF12.mono ?_
        rintro e5 w5 ⟨rfl, hb5⟩
        have M2 := Aside0.mk (M1.out.below hb5)
        have p1 : w5.cell? ⟨pb, 1, none⟩ = some (.int .i64 0) := blk_cell M2.out.p 1
        have p2 : w5.cell? ⟨pb, 2, none⟩ = some (.int .u64 0) := blk_cell M2.out.p 2
        have p3 : w5.cell? ⟨pb, 3, none⟩ = some (.int .u64 0) := blk_cell M2.out.p 3
        have f1 := blk_unfrozen M2.out.p 1
        have f2 := blk_unfrozen M2.out.p 2
        have f3 := blk_unfrozen M2.out.p 3
        clear hb5 hF12 M1
        go_wp2_with (fail)
        have M3 := Aside0.mk (((M2.out.set 1 (.int .i64 (fromA ((l.drop 12).take 4)).1)).set 2 (.int .u64 (fromA ((l.drop 12).take 4)).2.1)).set 3 (.int .u64 (fromA ((l.drop 12).take 4)).2.2.1))
        refine (HF16.out _ M3.out.hB).mono ?_
        rintro e6 w6 ⟨rfl, hb6⟩
        have M4 := Aside0.mk (M3.out.below hb6)
        have p1 : w6.cell? ⟨pb, 4, none⟩ = some (.int .i64 0) := blk_cell M4.out.p 4
        have p2 : w6.cell? ⟨pb, 5, none⟩ = some (.int .u64 0) := blk_cell M4.out.p 5
        have p3 : w6.cell? ⟨pb, 6, none⟩ = some (.int .u64 0) := blk_cell M4.out.p 6
        have f1 := blk_unfrozen M4.out.p 4
        have f2 := blk_unfrozen M4.out.p 5
        have f3 := blk_unfrozen M4.out.p 6
        clear hb6 M2 M3
        go_upto_region 30 with (fail)
        have M5 := Aside0.mk (((M4.out.set 4 (.int .i64 (fromA ((l.drop 16).take 4)).1)).set 5 (.int .u64 (fromA ((l.drop 16).take 4)).2.1)).set 6 (.int .u64 (fromA ((l.drop 16).take 4)).2.2.1))
        try go_frame
        clear p1 p2 p3 f1 f2 f3 M4
        generalize ((w6.setCell ⟨pb, 4, none⟩ (.int .i64 (fromA ((l.drop 16).take 4)).1)).setCell ⟨pb, 5, none⟩ (.int .u64 (fromA ((l.drop 16).take 4)).2.1)).setCell ⟨pb, 6, none⟩ (.int .u64 (fromA ((l.drop 16).take 4)).2.2.1) = w7 at *
        have M6 : Aside0 (MidP w w.heap.size pb (.slice none 0 0) [] (ipCells ⟨4, addrOf ((l.drop 12).take 4), addrOf ((l.drop 16).take 4), v9, v8, false, 0, 0, false, [], []⟩ (.slice none 0 0) (.slice none 0 0)) w7) := M5
        clear M5
        obtain ⟨A2, hA2⟩ : ∃ A', A' = (if c = hd then some ad else (some ad).map (·.add (hd * 1))) := ⟨_, rfl⟩
        have hcut3 : ∀ W : World, (Instr.slice 27 (.slice (some ad) n c) (some (.int .i64 (hd : Int))) (some (.int .i64 (tot : Int))) none).run Try.prog W = .ok (.slice A2 (tot - hd) (c - hd)) W := by
          obtain ⟨i0, hi0, _, hsz0, _⟩ := info_parts info5
          have h := cut_mid (P := Try.prog) 27 5 .i64 .i64 Try.underlying27 hi0 1 hsz0 (some ad) n c (hd : Int) (tot : Int) (by omega) (by omega) (by omega) hc
          rw [Int.toNat_natCast, Int.toNat_natCast] at h
          rw [hA2]
          exact h
        obtain ⟨da, hda⟩ : ∃ da, da = (l.take tot).drop hd := ⟨_, rfl⟩
        have hdl : da.length = tot - hd := by rw [hda, List.length_drop, List.length_take]; have := HR.out.2.2; omega
        have hCd : Aside0 ((Kd.int .u8).C w7 A2 da.length da) := ⟨by
          have h1 := C_midN (Kd.C_below HR.out.1 M6.out.hB) hc hd (tot - hd) (by omega)
          rw [← hA2, show (l.drop hd).take (tot - hd) = (l.take tot).drop hd by rw [List.drop_take], ← hda] at h1
          rw [hdl]
          exact h1⟩
        have HDL := Aside0.mk hdl
        have HDA := Aside0.mk hda
        have p14 : w7.cell? ⟨pb, 14, none⟩ = some (.slice none 0 0) := blk_cell M6.out.p 14
        rw [← hdl] at hcut3
        clear hA2 hda hdl
        go_upto_region 31 with (at_builtin; go_loud (refine Kd.R_append_rows (Kd.int .u8) (w0 := w7) w7.heap.size rfl (.const (.slice none 0 0)) (.tmp 137) 27 5 (.int .u8 0) 1 rfl Try.underlying27 info5 rfl (by decide) (by omega) (.slice none 0 0) [] da _ _ _ (fun _ => True) (fun _ => False) rfl rfl ?aO ?aR (fun _ _ h => h) (fun _ h => h.elim) ?aF ?aB ?aS ?aL ?_; (case aF => exact (fun _ _ => trivial)); (case aB => exact Below.refl _ _); (case aS => exact Nat.le_refl _); (case aL => have := HDL.out; simp; omega); (case aR => exact hCd.out); (case aO => exact Kd.R_nil _ _ _ _ _); intro v1 w8 ho hb hg hat; clear hg hat; rw [List.nil_append] at ho; obtain ⟨A3, c3, hv3⟩ := Kd.R_slice ho; subst hv3; have M7 := Aside0.mk (M6.out.below hb); have HO := Aside0.mk (Kd.R_lower ho (M6.out.hB.size)); clear ho hb; have p14 : w8.cell? ⟨pb, 14, none⟩ = some (.slice none 0 0) := blk_cell M7.out.p 14; have f14 := blk_unfrozen M7.out.p 14))
        have M8 : Aside0 (MidP w w.heap.size pb (.slice A3 da.length c3) da (ipCells ⟨4, addrOf ((l.drop 12).take 4), addrOf ((l.drop 16).take 4), v9, v8, false, 0, 0, false, [], []⟩ (.slice none 0 0) (.slice A3 da.length c3)) (w8.setCell ⟨pb, 14, none⟩ (.slice A3 da.length c3))) :=
          ⟨((MidP.mk M7.out.g0 M7.out.p M7.out.ne M7.out.ge HO.out M7.out.hB).set 14 (.slice A3 da.length c3))⟩
        try go_frame
        clear p14 f14 M7 HO hcut3 hCd
        generalize w8.setCell ⟨pb, 14, none⟩ (.slice A3 da.length c3) = w9 at *
        clear M6
        have hu4 : IntKind.u32.wrap idn = idn := by rw [IntKind.wrap_u32]; omega
        have h63 := H63.out w9 4 M8.out.hB (by omega) (by omega)
        rw [← HIDN.out] at h63
        go_wp2_with (fail)
        refine h63.mono ?_
        rintro e10 w10 ⟨rfl, hb10⟩
        have M9 := Aside0.mk (M8.out.below hb10)
        have p9 : w10.cell? ⟨pb, 9, none⟩ = some (.bool false) := blk_cell M9.out.p 9
        have p10 : w10.cell? ⟨pb, 10, none⟩ = some (.int .u32 0) := blk_cell M9.out.p 10
        have p11 : w10.cell? ⟨pb, 11, none⟩ = some (.int .i64 0) := blk_cell M9.out.p 11
        have p12 : w10.cell? ⟨pb, 12, none⟩ = some (.bool false) := blk_cell M9.out.p 12
        have f9 := blk_unfrozen M9.out.p 9
        have f10 := blk_unfrozen M9.out.p 10
        have f11 := blk_unfrozen M9.out.p 11
        have f12 := blk_unfrozen M9.out.p 12
        clear hb10 h63 M8
        go_upto_region 34 with (fail)
        have M10 : Aside0 (MidP w w.heap.size pb (.slice A3 da.length c3) da (ipCells ⟨4, addrOf ((l.drop 12).take 4), addrOf ((l.drop 16).take 4), v9, v8, true, idn, off, true, [], []⟩ (.slice none 0 0) (.slice A3 da.length c3)) ((((w10.setCell ⟨pb, 9, none⟩ (.bool true)).setCell ⟨pb, 10, none⟩ (.int .u32 idn)).setCell ⟨pb, 11, none⟩ (.int .i64 off)).setCell ⟨pb, 12, none⟩ (.bool true))) :=
          ⟨((((M9.out.set 9 (.bool true)).set 10 (.int .u32 idn)).set 11 (.int .i64 off)).set 12 (.bool true))⟩
        try go_frame
        clear p9 p10 p11 p12 f9 f10 f11 f12 M9
        generalize (((w10.setCell ⟨pb, 9, none⟩ (.bool true)).setCell ⟨pb, 10, none⟩ (.int .u32 idn)).setCell ⟨pb, 11, none⟩ (.int .i64 off)).setCell ⟨pb, 12, none⟩ (.bool true) = w11 at *
        have HRC : Aside0 (RES = (⟨4, addrOf ((l.drop 12).take 4), addrOf ((l.drop 16).take 4), v9, v8, true, idn, off, true, [], da⟩, 0)) := ⟨by rw [HP9.out, ← HIDN.out, ← HDA.out]⟩
        go_wp2_with (first | (refine wpList_load_row rfl 55 (.tmp 12) rfl pb rfl 55 _ (0, 0) _ M10.out.p Try.underlying55 rfl (by kernel_rfl) ?_) | (refine wpList_store_row rfl 55 (.tmp 2) (.tmp 158) rfl w.heap.size (ipCells ⟨4, addrOf ((l.drop 12).take 4), addrOf ((l.drop 16).take 4), v9, v8, true, idn, off, true, [], []⟩ (.slice none 0 0) (.slice A3 da.length c3)) rfl rfl 55 zeroC M10.out.g0 (by kernel_rfl) rfl (ipCells_one _ _ _ _ _ _ _) ?_))
        refine bodyPost_ret (results_cell_tmp rfl _ _ w.heap.size 55 _ (0, 0) _ (.int .i64 0) rfl rfl (setRow_heap _ _ _ _ _ _ M10.out.g0) Try.underlying55 rfl (by kernel_rfl)) rfl ?_
        have hdn := M10.out.done (r := RES) (cs := ipCells ⟨4, addrOf ((l.drop 12).take 4), addrOf ((l.drop 16).take 4), v9, v8, true, idn, off, true, [], []⟩ (.slice none 0 0) (.slice A3 da.length c3)) (by rw [HRC.out]; exact ⟨rfl, rfl⟩) (by rw [HRC.out]; rfl)
        rw [HRC.out] at hdn ⊢
        exact hdn
    · have y6 : (v6 / 32 % 2 == 1) = false := by
        rw [hm2]
        simpa using zm
      have HP8 : Aside0 (RES = if 65515 < off + ((tot : Int) - hd) then (zeroV, 11) else if 0 < off then (⟨4, addrOf ((l.drop 12).take 4), addrOf ((l.drop 16).take 4), v9, v8, true, u16 l 4, off, false, [], (l.take tot).drop hd⟩, 0)
        else (⟨4, addrOf ((l.drop 12).take 4), addrOf ((l.drop 16).take 4), v9, v8, false, 0, 0, false, [], (l.take tot).drop hd⟩, 0)) := ⟨by
          rw [HP7.out, if_neg (fun h => zm h.1), decide_eq_false zm]
          have : (pl / 8192 % 2 = 1 ∨ 0 < off) ↔ 0 < off := ⟨fun h => h.elim (fun h => absurd h zm) id, .inr⟩
          simp only [this]⟩
      clear zm hm2
      by_cases z6 : 65515 < off + ((tot : Int) - hd)
      · have HRC : Aside0 (RES = (zeroV, 11)) := ⟨by rw [HP8.out, if_pos z6]⟩
        have q6 : 65515 < off + (tot : Int) - (hd : Int) := by omega
        clear z6
        go_wp2_with (refine wpList_store_row rfl 55 (.tmp 2) (.tmp 110) rfl w.heap.size zeroC rfl rfl 55 zeroC HG4.out (by kernel_rfl) rfl zeroC_one ?_)
        refine bodyPost_ret (results_cell_tmp rfl _ _ w.heap.size 55 zeroC (0, 0) _ (.int .i64 11) rfl rfl (setRow_heap _ _ _ _ _ _ HG4.out) Try.underlying55 rfl (by kernel_rfl)) rfl ?_
        rw [HRC.out]
        exact fail_post (g := 0) 11 (below_setRow HB4.out (Nat.le_refl _) _)
      have HP9 : Aside0 (RES = if 0 < off then (⟨4, addrOf ((l.drop 12).take 4), addrOf ((l.drop 16).take 4), v9, v8, true, u16 l 4, off, false, [], (l.take tot).drop hd⟩, 0) else (⟨4, addrOf ((l.drop 12).take 4), addrOf ((l.drop 16).take 4), v9, v8, false, 0, 0, false, [], (l.take tot).drop hd⟩, 0)) := ⟨by rw [HP8.out, if_neg z6]⟩
      have q6 : off + (tot : Int) - (hd : Int) ≤ 65515 := by omega
      clear z6 HP8 HP7
      go_upto_region 27 with (fail)
      have g8 := pw_cell_at HB4.out HAA.out.2.1
      have g9 := pw_cell_at HB4.out HAA.out.2.2
      have w8 : IntKind.i64.wrap v8 = v8 := wraps_i64 _ (by omega) (by omega)
      have w9 : IntKind.i64.wrap v9 = v9 := wraps_i64 _ (by omega) (by omega)
      have r8 : (8 : Int) < (n : Int) := by omega
      have r9 : (9 : Int) < (n : Int) := by omega
      clear g6 x4 x5 x6 hcut y1 y2 y3 y4 y5 y6
      have hlw := lt_of_heap HG4.out
      have kd8 : w4.drew.cell? ⟨ad.block, ad.off + 8, none⟩ = some (.int .u8 v8) := g8
      have kd9 : w4.drew.cell? ⟨ad.block, ad.off + 9, none⟩ = some (.int .u8 v9) := g9
      have ka8 : ∀ o, (w4.alloc o).drew.cell? ⟨ad.block, ad.off + 8, none⟩ = some (.int .u8 v8) := fun o => pw_cell_below (below_alloc (Below.refl _ _) o) g8
      have ka9 : ∀ o, (w4.alloc o).drew.cell? ⟨ad.block, ad.off + 9, none⟩ = some (.int .u8 v9) := fun o => pw_cell_below (below_alloc (Below.refl _ _) o) g9
      go_cut [12] (fun v wc => v = .pointer (some ⟨w4.heap.size, 0, none⟩) ∧ Aside0 (MidP w w.heap.size w4.heap.size (.slice none 0 0) [] (ipCells ⟨4, (0, 0, 0), (0, 0, 0), v9, v8, false, 0, 0, false, [], []⟩ (.slice none 0 0) (.slice none 0 0)) wc))
      case first =>
        go_region_held3 (fun w' => w'.cell? ⟨ad.block, ad.off + 8, none⟩ = some (.int .u8 v8) ∧ w'.cell? ⟨ad.block, ad.off + 9, none⟩ = some (.int .u8 v9)) (first | with_reducible exact ⟨kd8, kd9⟩ | with_reducible exact ⟨ka8 _, ka9 _⟩) ((fail))
        go_wp2
        go_meet
        case rel => exact ⟨rfl, ⟨⟨blk_alloc HG4.out _, blk_at rfl, hlw, Nat.le_refl _, Kd.R_nil _ _ _ _ _, below_drew (below_alloc HB4.out _)⟩⟩⟩
      case rest =>
        obtain ⟨rfl, M1⟩ := hcut
        have hF : ∀ (o : Nat), 0 < o → o + 4 ≤ 20 → ∀ W, Below w.heap.size w W → Calls Try.prog 103 #[.slice (some ⟨ad.block, ad.off + o, none⟩) 4 (c - o)] W fun e w' => e = .returned (.tuple #[.agg #[.int .i64 (fromA ((l.drop o).take 4)).1, .int .u64 (fromA ((l.drop o).take 4)).2.1, .int .u64 (fromA ((l.drop o).take 4)).2.2.1], .int .i64 (fromA ((l.drop o).take 4)).2.2.2]) ∧ Below W.heap.size W w' := fun o ho ho2 W hW => by
          have h := C_midN HR.out.1 hc o 4 (by omega)
          rw [if_neg (by omega), Option.map_some, Nat.mul_one, add_at _ _ ho] at h
          exact rFrom_at (Kd.C_below h hW) (by omega) (fun y hy => HR.out.2.1 y (List.mem_of_mem_drop (List.mem_of_mem_take hy)))
        have hF12 := hF 12 (by omega) (by omega) wc M1.out.hB
        have HF16 := Aside0.mk (hF 16 (by omega) (by omega))
        clear hF kd8 kd9 ka8 ka9 g8 g9 HG4 HB4
        obtain ⟨pb, hpb⟩ : ∃ pb, pb = w4.heap.size := ⟨_, rfl⟩
        rw [← hpb] at M1 ⊢
        clear hpb hlw
        go_wp2_with (fail)
        refine hF12.mono ?_
        rintro e5 w5 ⟨rfl, hb5⟩
        have M2 := Aside0.mk (M1.out.below hb5)
        have p1 : w5.cell? ⟨pb, 1, none⟩ = some (.int .i64 0) := blk_cell M2.out.p 1
        have p2 : w5.cell? ⟨pb, 2, none⟩ = some (.int .u64 0) := blk_cell M2.out.p 2
        have p3 : w5.cell? ⟨pb, 3, none⟩ = some (.int .u64 0) := blk_cell M2.out.p 3
        have f1 := blk_unfrozen M2.out.p 1
        have f2 := blk_unfrozen M2.out.p 2
        have f3 := blk_unfrozen M2.out.p 3
        clear hb5 hF12 M1
        go_wp2_with (fail)
        have M3 := Aside0.mk (((M2.out.set 1 (.int .i64 (fromA ((l.drop 12).take 4)).1)).set 2 (.int .u64 (fromA ((l.drop 12).take 4)).2.1)).set 3 (.int .u64 (fromA ((l.drop 12).take 4)).2.2.1))
        refine (HF16.out _ M3.out.hB).mono ?_
        rintro e6 w6 ⟨rfl, hb6⟩
        have M4 := Aside0.mk (M3.out.below hb6)
        have p1 : w6.cell? ⟨pb, 4, none⟩ = some (.int .i64 0) := blk_cell M4.out.p 4
        have p2 : w6.cell? ⟨pb, 5, none⟩ = some (.int .u64 0) := blk_cell M4.out.p 5
        have p3 : w6.cell? ⟨pb, 6, none⟩ = some (.int .u64 0) := blk_cell M4.out.p 6
        have f1 := blk_unfrozen M4.out.p 4
        have f2 := blk_unfrozen M4.out.p 5
        have f3 := blk_unfrozen M4.out.p 6
        clear hb6 M2 M3
        go_upto_region 30 with (fail)
        have M5 := Aside0.mk (((M4.out.set 4 (.int .i64 (fromA ((l.drop 16).take 4)).1)).set 5 (.int .u64 (fromA ((l.drop 16).take 4)).2.1)).set 6 (.int .u64 (fromA ((l.drop 16).take 4)).2.2.1))
        try go_frame
        clear p1 p2 p3 f1 f2 f3 M4
        generalize ((w6.setCell ⟨pb, 4, none⟩ (.int .i64 (fromA ((l.drop 16).take 4)).1)).setCell ⟨pb, 5, none⟩ (.int .u64 (fromA ((l.drop 16).take 4)).2.1)).setCell ⟨pb, 6, none⟩ (.int .u64 (fromA ((l.drop 16).take 4)).2.2.1) = w7 at *
        have M6 : Aside0 (MidP w w.heap.size pb (.slice none 0 0) [] (ipCells ⟨4, addrOf ((l.drop 12).take 4), addrOf ((l.drop 16).take 4), v9, v8, false, 0, 0, false, [], []⟩ (.slice none 0 0) (.slice none 0 0)) w7) := M5
        clear M5
        obtain ⟨A2, hA2⟩ : ∃ A', A' = (if c = hd then some ad else (some ad).map (·.add (hd * 1))) := ⟨_, rfl⟩
        have hcut3 : ∀ W : World, (Instr.slice 27 (.slice (some ad) n c) (some (.int .i64 (hd : Int))) (some (.int .i64 (tot : Int))) none).run Try.prog W = .ok (.slice A2 (tot - hd) (c - hd)) W := by
          obtain ⟨i0, hi0, _, hsz0, _⟩ := info_parts info5
          have h := cut_mid (P := Try.prog) 27 5 .i64 .i64 Try.underlying27 hi0 1 hsz0 (some ad) n c (hd : Int) (tot : Int) (by omega) (by omega) (by omega) hc
          rw [Int.toNat_natCast, Int.toNat_natCast] at h
          rw [hA2]
          exact h
        obtain ⟨da, hda⟩ : ∃ da, da = (l.take tot).drop hd := ⟨_, rfl⟩
        have hdl : da.length = tot - hd := by rw [hda, List.length_drop, List.length_take]; have := HR.out.2.2; omega
        have hCd : Aside0 ((Kd.int .u8).C w7 A2 da.length da) := ⟨by
          have h1 := C_midN (Kd.C_below HR.out.1 M6.out.hB) hc hd (tot - hd) (by omega)
          rw [← hA2, show (l.drop hd).take (tot - hd) = (l.take tot).drop hd by rw [List.drop_take], ← hda] at h1
          rw [hdl]
          exact h1⟩
        have HDL := Aside0.mk hdl
        have HDA := Aside0.mk hda
        have p14 : w7.cell? ⟨pb, 14, none⟩ = some (.slice none 0 0) := blk_cell M6.out.p 14
        rw [← hdl] at hcut3
        clear hA2 hda hdl
        go_upto_region 31 with (at_builtin; go_loud (refine Kd.R_append_rows (Kd.int .u8) (w0 := w7) w7.heap.size rfl (.const (.slice none 0 0)) (.tmp 137) 27 5 (.int .u8 0) 1 rfl Try.underlying27 info5 rfl (by decide) (by omega) (.slice none 0 0) [] da _ _ _ (fun _ => True) (fun _ => False) rfl rfl ?aO ?aR (fun _ _ h => h) (fun _ h => h.elim) ?aF ?aB ?aS ?aL ?_; (case aF => exact (fun _ _ => trivial)); (case aB => exact Below.refl _ _); (case aS => exact Nat.le_refl _); (case aL => have := HDL.out; simp; omega); (case aR => exact hCd.out); (case aO => exact Kd.R_nil _ _ _ _ _); intro v1 w8 ho hb hg hat; clear hg hat; rw [List.nil_append] at ho; obtain ⟨A3, c3, hv3⟩ := Kd.R_slice ho; subst hv3; have M7 := Aside0.mk (M6.out.below hb); have HO := Aside0.mk (Kd.R_lower ho (M6.out.hB.size)); clear ho hb; have p14 : w8.cell? ⟨pb, 14, none⟩ = some (.slice none 0 0) := blk_cell M7.out.p 14; have f14 := blk_unfrozen M7.out.p 14))
        have M8 : Aside0 (MidP w w.heap.size pb (.slice A3 da.length c3) da (ipCells ⟨4, addrOf ((l.drop 12).take 4), addrOf ((l.drop 16).take 4), v9, v8, false, 0, 0, false, [], []⟩ (.slice none 0 0) (.slice A3 da.length c3)) (w8.setCell ⟨pb, 14, none⟩ (.slice A3 da.length c3))) :=
          ⟨((MidP.mk M7.out.g0 M7.out.p M7.out.ne M7.out.ge HO.out M7.out.hB).set 14 (.slice A3 da.length c3))⟩
        try go_frame
        clear p14 f14 M7 HO hcut3 hCd
        generalize w8.setCell ⟨pb, 14, none⟩ (.slice A3 da.length c3) = w9 at *
        clear M6
        by_cases z7 : 0 < off
        · have hu4 : IntKind.u32.wrap idn = idn := by rw [IntKind.wrap_u32]; omega
          have h63 := H63.out w9 4 M8.out.hB (by omega) (by omega)
          rw [← HIDN.out] at h63
          go_wp2_with (fail)
          refine h63.mono ?_
          rintro e10 w10 ⟨rfl, hb10⟩
          have M9 := Aside0.mk (M8.out.below hb10)
          have p9 : w10.cell? ⟨pb, 9, none⟩ = some (.bool false) := blk_cell M9.out.p 9
          have p10 : w10.cell? ⟨pb, 10, none⟩ = some (.int .u32 0) := blk_cell M9.out.p 10
          have p11 : w10.cell? ⟨pb, 11, none⟩ = some (.int .i64 0) := blk_cell M9.out.p 11
          have p12 : w10.cell? ⟨pb, 12, none⟩ = some (.bool false) := blk_cell M9.out.p 12
          have f9 := blk_unfrozen M9.out.p 9
          have f10 := blk_unfrozen M9.out.p 10
          have f11 := blk_unfrozen M9.out.p 11
          have f12 := blk_unfrozen M9.out.p 12
          clear hb10 h63 M8
          go_upto_region 34 with (fail)
          have M10 : Aside0 (MidP w w.heap.size pb (.slice A3 da.length c3) da (ipCells ⟨4, addrOf ((l.drop 12).take 4), addrOf ((l.drop 16).take 4), v9, v8, true, idn, off, false, [], []⟩ (.slice none 0 0) (.slice A3 da.length c3)) ((((w10.setCell ⟨pb, 9, none⟩ (.bool true)).setCell ⟨pb, 10, none⟩ (.int .u32 idn)).setCell ⟨pb, 11, none⟩ (.int .i64 off)).setCell ⟨pb, 12, none⟩ (.bool false))) :=
            ⟨((((M9.out.set 9 (.bool true)).set 10 (.int .u32 idn)).set 11 (.int .i64 off)).set 12 (.bool false))⟩
          try go_frame
          clear p9 p10 p11 p12 f9 f10 f11 f12 M9
          generalize (((w10.setCell ⟨pb, 9, none⟩ (.bool true)).setCell ⟨pb, 10, none⟩ (.int .u32 idn)).setCell ⟨pb, 11, none⟩ (.int .i64 off)).setCell ⟨pb, 12, none⟩ (.bool false) = w11 at *
          have HRC : Aside0 (RES = (⟨4, addrOf ((l.drop 12).take 4), addrOf ((l.drop 16).take 4), v9, v8, true, idn, off, false, [], da⟩, 0)) := ⟨by rw [HP9.out, if_pos z7, ← HIDN.out, ← HDA.out]⟩
          go_wp2_with (first | (refine wpList_load_row rfl 55 (.tmp 12) rfl pb rfl 55 _ (0, 0) _ M10.out.p Try.underlying55 rfl (by kernel_rfl) ?_) | (refine wpList_store_row rfl 55 (.tmp 2) (.tmp 158) rfl w.heap.size (ipCells ⟨4, addrOf ((l.drop 12).take 4), addrOf ((l.drop 16).take 4), v9, v8, true, idn, off, false, [], []⟩ (.slice none 0 0) (.slice A3 da.length c3)) rfl rfl 55 zeroC M10.out.g0 (by kernel_rfl) rfl (ipCells_one _ _ _ _ _ _ _) ?_))
          refine bodyPost_ret (results_cell_tmp rfl _ _ w.heap.size 55 _ (0, 0) _ (.int .i64 0) rfl rfl (setRow_heap _ _ _ _ _ _ M10.out.g0) Try.underlying55 rfl (by kernel_rfl)) rfl ?_
          have hdn := M10.out.done (r := RES) (cs := ipCells ⟨4, addrOf ((l.drop 12).take 4), addrOf ((l.drop 16).take 4), v9, v8, true, idn, off, false, [], []⟩ (.slice none 0 0) (.slice A3 da.length c3)) (by rw [HRC.out]; exact ⟨rfl, rfl⟩) (by rw [HRC.out]; rfl)
          rw [HRC.out] at hdn ⊢
          exact hdn
        · have z8 : off ≤ 0 := by omega
          have HRC : Aside0 (RES = (⟨4, addrOf ((l.drop 12).take 4), addrOf ((l.drop 16).take 4), v9, v8, false, 0, 0, false, [], da⟩, 0)) := ⟨by rw [HP9.out, if_neg z7, ← HDA.out]⟩
          go_wp2_with (first | (refine wpList_load_row rfl 55 (.tmp 12) rfl pb rfl 55 _ (0, 0) _ M8.out.p Try.underlying55 rfl (by kernel_rfl) ?_) | (refine wpList_store_row rfl 55 (.tmp 2) (.tmp 158) rfl w.heap.size (ipCells ⟨4, addrOf ((l.drop 12).take 4), addrOf ((l.drop 16).take 4), v9, v8, false, 0, 0, false, [], []⟩ (.slice none 0 0) (.slice A3 da.length c3)) rfl rfl 55 zeroC M8.out.g0 (by kernel_rfl) rfl (ipCells_one _ _ _ _ _ _ _) ?_))
          refine bodyPost_ret (results_cell_tmp rfl _ _ w.heap.size 55 _ (0, 0) _ (.int .i64 0) rfl rfl (setRow_heap _ _ _ _ _ _ M8.out.g0) Try.underlying55 rfl (by kernel_rfl)) rfl ?_
          have hdn := M8.out.done (r := RES) (cs := ipCells ⟨4, addrOf ((l.drop 12).take 4), addrOf ((l.drop 16).take 4), v9, v8, false, 0, 0, false, [], []⟩ (.slice none 0 0) (.slice A3 da.length c3)) (by rw [HRC.out]; exact ⟨rfl, rfl⟩) (by rw [HRC.out]; rfl)
          rw [HRC.out] at hdn ⊢
          exact hdn
end Go.Proofs.Ytgifcmbknkjemaa.Own
end
