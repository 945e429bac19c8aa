/- What the law Ip4Behind rests on, part 17: contracts of the functions that it calls, and plain lemmas. No condition. -/
import Derived.Test.YtgifcmbknkjemaaZIp4Behind16
section
namespace Go.Proofs.Ytgifcmbknkjemaa.Own
open Go Go.RowKit Go.Proofs.YtgifcmbknkjemaaW.PrintWords Go.Proofs.YtgifcmbknkjemaaW.PrintLast Go.Proofs.YtgifcmbknkjemaaW.PrintMore
set_option linter.unusedVariables false
set_option linter.unusedSimpArgs false
structure MidX (w : World) (pb : Nat) (vD : Value) (da : List Int) (cells : Array Value) (bx : Value) (wc : World) : Prop where
  m : MidP w (w.heap.size + 1) pb vD da cells wc
  x : wc.heap[w.heap.size]? = some (.cells #[bx] 27 (0, 0))
theorem MidX.below {w wc wd : World} {pb : Nat} {vD : Value} {da : List Int} {cells : Array Value} {bx : Value} (h : MidX w pb vD da cells bx wc) (hb : Below wc.heap.size wc wd) : MidX w pb vD da cells bx wd :=
  ⟨h.m.below hb, (hb.block _ (lt_of_heap h.x)).trans h.x⟩
theorem MidX.set {w wc : World} {pb : Nat} {vD : Value} {da : List Int} {cells : Array Value} {bx : Value} (h : MidX w pb vD da cells bx wc) (i : Nat) (v : Value) : MidX w pb vD da (cells.setIfInBounds i v) bx (wc.setCell ⟨pb, i, none⟩ v) :=
  ⟨h.m.set i v, (heap_setCell_other wc ⟨pb, i, none⟩ _ v (show w.heap.size ≠ pb by have := h.m.ne; omega)).trans h.x⟩
theorem MidX.box {w wc : World} {pb : Nat} {vD : Value} {da : List Int} {cells : Array Value} {bx : Value} (h : MidX w pb vD da cells bx wc) : wc.cell? ⟨w.heap.size, 0, none⟩ = some bx := blk_cell h.x 0
theorem keep1 {w : World} {a : Addr} {g i : Nat} {v : Option Value} {x : Value} (h : a.block ≠ g) (hc : w.cell? a = v) : (w.setCell ⟨g, i, none⟩ x).cell? a = v := by
  unfold World.cell? at hc ⊢
  rw [heap_setCell_other w ⟨g, i, none⟩ a.block x h]
  exact hc
theorem keep15 {w : World} {a : Addr} {g : Nat} {v : Option Value} {v0 v1 v2 v3 v4 v5 v6 v7 v8 v9 v10 v11 v12 v13 v14 : Value} (h : a.block ≠ g) (hc : w.cell? a = v) : (((((((((((((((w.setCell ⟨g, 0, none⟩ v0).setCell ⟨g, 1, none⟩ v1).setCell ⟨g, 2, none⟩ v2).setCell ⟨g, 3, none⟩ v3).setCell ⟨g, 4, none⟩ v4).setCell ⟨g, 5, none⟩ v5).setCell ⟨g, 6, none⟩ v6).setCell ⟨g, 7, none⟩ v7).setCell ⟨g, 8, none⟩ v8).setCell ⟨g, 9, none⟩ v9).setCell ⟨g, 10, none⟩ v10).setCell ⟨g, 11, none⟩ v11).setCell ⟨g, 12, none⟩ v12).setCell ⟨g, 13, none⟩ v13).setCell ⟨g, 14, none⟩ v14).cell? a = v := (keep1 h (keep1 h (keep1 h (keep1 h (keep1 h (keep1 h (keep1 h (keep1 h (keep1 h (keep1 h (keep1 h (keep1 h (keep1 h (keep1 h (keep1 h hc)))))))))))))))
theorem U16c_at {W : World} {g : Nat} {A : Option Addr} {n c : Nat} {l : List Int} (hx : W.cell? ⟨g, 0, none⟩ = some (.slice A n c)) (a : Int) (hr : (Kd.int .u8).C W A n l) (hc : n ≤ c) (hby : Bytes l) (hl : n ≤ 140737488355000) (h0 : 0 ≤ a) (ha : a + 2 ≤ n) :
    Calls Try.prog 112 #[.int .i64 a, .pointer (some ⟨g, 0, none⟩)] W fun e w' => e = .returned (.int .i64 (u16 l a)) ∧ ∃ m, w' = W.drewN m := by
  have h := U16_at a hr hc hby hl h0 ha
  have H := Aside0.mk h
  clear h hr hby
  go_enter Try.func112, Try.ntmps112
  go_wp2_with (go_at_call 49; refine H.out.mono ?_; rintro e w' ⟨rfl, m, rfl⟩)
  go_ret
  exact ⟨rfl, m, rfl⟩
theorem U16_no {A : Option Addr} {c n : Nat} {l : List Int} {w : World} (a : Int) (hr : (Kd.int .u8).C w A n l) (hc : n ≤ c) (hb : Bytes l) (hl : n ≤ 140737488355000) (ha : n < a + 2) :
    Calls Try.prog 49 #[.slice A n c, .int .i64 a] w fun e w' => e = .returned (.tuple #[.int .i64 0, .bool false]) ∧ ∃ m, w' = w.drewN m := by
  have hn : l.length = n := hr.1
  subst hn
  refine (wire_U16.calls A c l a 0 false w hr hc ?_).mono fun e w' h => ⟨h.1, h.2.out⟩
  unfold wire_U16.f
  rw [if_pos (okS_iff.2 ⟨hb, hl⟩), if_neg (by omega)]
set_option maxHeartbeats 8000000 in
set_option maxRecDepth 100000 in
theorem Parse4_at {w : World} {A : Option Addr} {n c : Nat} {l : List Int} (hr : (Kd.int .u8).C w A n l) (hc : n ≤ c) (hby : Bytes l) (hn : n ≤ 140737488355000) :
    Calls Try.prog 64 #[.slice A n c] w (IpPost w (parse4 l)) := by
  have hnl : l.length = n := hr.1
  by_cases h20 : n < 20
  · have hp : parse4 l = (zeroV, 2) := by unfold parse4; rw [if_pos (by omega)]
    rw [hp]
    have H49 : Aside0 (∀ W, Below w.heap.size w W → Calls Try.prog 49 #[.slice A n c, .int .i64 18] W fun e w' => e = .returned (.tuple #[.int .i64 0, .bool false]) ∧ ∃ m, w' = W.drewN m) := ⟨fun W hW => U16_no 18 (Kd.C_below hr hW) hc hby hn (by omega)⟩
    clear hp hr hby hnl
    go_enter Try.func64, Try.ntmps64
    go_wp2_with (first | (go_at_call 49; refine (H49.out _ (below_alloc (below_alloc (Below.refl _ _) _) _)).mono ?_; rintro e1 w1 ⟨rfl, m, rfl⟩; have HG : Aside0 ((((w.alloc (.cells #[.slice A n c] 27)).alloc (.cells zeroC 55)).drewN m).heap[w.heap.size + 1]? = some (.cells zeroC 55 (0, 0))) := ⟨blk_at (W := w.alloc _) (by simp)⟩; have HB : Aside0 (Below w.heap.size w (((w.alloc (.cells #[.slice A n c] 27)).alloc (.cells zeroC 55)).drewN m)) := ⟨pw_below_drewN (below_alloc (below_alloc (Below.refl _ _) _) _) m⟩) | (refine wpList_store_row rfl 55 (.tmp 2) (.tmp 25) rfl (w.heap.size + 1) zeroC rfl rfl 55 zeroC HG.out (by kernel_rfl) rfl zeroC_one ?_))
    refine bodyPost_ret (results_cell_tmp rfl _ _ (w.heap.size + 1) 55 zeroC (0, 0) _ (.int .i64 2) rfl rfl (setRow_heap _ _ _ _ _ _ HG.out) Try.underlying55 rfl (by kernel_rfl)) rfl ?_
    exact fail_post (g := 0) 2 (below_setRow HB.out (by omega) _)
  · obtain ⟨ad, rfl, a0⟩ := Kd.at_int hr 0 (by omega) (by omega)
    obtain ⟨_, h8, a8⟩ := Kd.at_int hr 8 (by omega) (by omega)
    obtain rfl := Option.some.inj h8
    obtain ⟨_, h9, a9⟩ := Kd.at_int hr 9 (by omega) (by omega)
    obtain rfl := Option.some.inj h9
    rw [show ((0 : Int)).toNat = 0 from rfl, Addr.add_zero'] at a0
    rw [show ((8 : Int)).toNat = 8 from rfl, add_at _ _ (by omega)] at a8
    rw [show ((9 : Int)).toNat = 9 from rfl, add_at _ _ (by omega)] at a9
    have b0 := rd_byte hby 0
    have b6 := rd_byte hby 6
    have b7 := rd_byte hby (6 + 1)
    have b8 := rd_byte hby 8
    have b9 := rd_byte hby 9
    have u2 := u16_bounds hby 2
    have u6 := u16_bounds hby 6
    have u4 := u16_bounds hby 4
    obtain ⟨hd, hhd⟩ : ∃ hd : Nat, rd l 0 % 16 * 4 = (hd : Int) := ⟨(rd l 0 % 16 * 4).toNat, by omega⟩
    obtain ⟨tot, htot⟩ : ∃ t : Nat, u16 l 2 = (t : Int) := ⟨(u16 l 2).toNat, by omega⟩
    obtain ⟨pl, hpl⟩ : ∃ p, u16 l 6 = p := ⟨_, rfl⟩
    have hp := parse4_by hhd htot hpl
    rw [if_neg (by omega), hnl] at hp
    have hpl6 : pl / 256 = rd l 6 := by rw [← hpl]; unfold u16; omega
    obtain ⟨v0, hv0⟩ : ∃ v, v = rd l 0 := ⟨_, rfl⟩
    obtain ⟨v8, hv8⟩ : ∃ v, v = rd l 8 := ⟨_, rfl⟩
    obtain ⟨v9, hv9⟩ : ∃ v, v = rd l 9 := ⟨_, rfl⟩
    obtain ⟨S, hS⟩ : ∃ S, S = sumOf [l.take hd] := ⟨_, rfl⟩
    obtain ⟨E, hE⟩ : ∃ E, E = opt4 60 ((l.take hd).drop 20) := ⟨_, rfl⟩
    obtain ⟨idn, hidn⟩ : ∃ i, i = u16 l 4 := ⟨_, rfl⟩
    obtain ⟨da, hda⟩ : ∃ da, da = (l.take tot).drop hd := ⟨_, rfl⟩
    rw [← hv0] at a0 b0 hp hhd
    rw [← hv8] at a8 b8
    rw [← hv9] at a9 b9
    rw [← hidn] at u4
    obtain ⟨off, hoff⟩ : ∃ o, pl % 8192 * 8 = o := ⟨_, rfl⟩
    obtain ⟨mo, hmo⟩ : ∃ mo : Bool, mo = decide (pl / 8192 % 2 = 1) := ⟨_, rfl⟩
    obtain ⟨RES, hRES⟩ : ∃ R, R = parse4 l := ⟨_, rfl⟩
    rw [← hRES] at hp ⊢
    have upl : 0 ≤ pl ∧ pl ≤ 65535 := by rw [← hpl]; exact u6
    have HP0 : Aside0 (RES = if v0 / 16 ≠ 4 then (zeroV, 3) else if hd < 20 ∨ n < hd then (zeroV, 4) else if tot < hd ∨ n < tot then (zeroV, 5)
      else if S ≠ 65535 then (zeroV, 6) else if v8 = 0 then (zeroV, 26) else if 128 ≤ pl / 256 then (zeroV, 10) else if E ≠ 0 then (zeroV, E)
      else if mo = true ∧ ((tot : Int) - hd) % 8 ≠ 0 then (zeroV, 5) else if 65515 < off + ((tot : Int) - hd) then (zeroV, 11)
      else if mo = true ∨ 0 < off then (⟨4, addrOf ((l.drop 12).take 4), addrOf ((l.drop 16).take 4), v9, v8, true, idn, off, mo, [], da⟩, 0)
      else (⟨4, addrOf ((l.drop 12).take 4), addrOf ((l.drop 16).take 4), v9, v8, false, 0, 0, false, [], da⟩, 0)) := ⟨by
        rw [hp]
        unfold rest4
        have e1 : (0 < pl % 8192) ↔ 0 < off := by omega
        have e2 : (pl / 8192 % 2 = 1) ↔ mo = true := by rw [hmo]; simp
        rw [← hS, ← hv8, ← hv9, ← hE, ← hpl6, hoff, ← hidn, ← hda]
        simp only [e1, e2, Bool.decide_eq_true]⟩
    have hdl : da.length = (if hd ≤ tot ∧ tot ≤ n then tot - hd else da.length) := by
      split
      · rw [hda, List.length_drop, List.length_take]; omega
      · rfl
    have HDL := Aside0.mk hdl
    have H49 : Aside0 (∀ W, Below w.heap.size w W → Calls Try.prog 49 #[.slice (some ad) n c, .int .i64 18] W fun e w' => e = .returned (.tuple #[.int .i64 (u16 l 18), .bool true]) ∧ ∃ m, w' = W.drewN m) := ⟨fun W hW => U16_at 18 (Kd.C_below hr hW) hc hby hn (by omega) (by omega)⟩
    have H112 : Aside0 (∀ (W : World) (a : Int), Below w.heap.size w W → W.cell? ⟨w.heap.size, 0, none⟩ = some (.slice (some ad) n c) → 0 ≤ a → a + 2 ≤ 20 → Calls Try.prog 112 #[.int .i64 a, .pointer (some ⟨w.heap.size, 0, none⟩)] W fun e w' => e = .returned (.int .i64 (u16 l a)) ∧ ∃ m, w' = W.drewN m) :=
      ⟨fun W a hW hx h0 h2 => U16c_at hx a (Kd.C_below hr hW) hc hby hn h0 (by omega)⟩
    have HR := Aside0.mk (And.intro hr (And.intro hby hnl))
    have HA := Aside0.mk (And.intro a0 (And.intro a8 a9))
    have hn20 : (20 : Int) ≤ (n : Int) := by omega
    have x1 : Go.bits .and .u8 v0 15 = v0 % 16 := u8_and15 v0 b0.1 b0.2
    have x2 : IntKind.i64.wrap (v0 % 16) = v0 % 16 := wraps_i64 _ (by omega) (by omega)
    have x3 : IntKind.i64.wrap (v0 % 16 * 4) = (hd : Int) := by rw [wraps_i64 _ (by omega) (by omega)]; exact hhd
    have x4 : Go.bits .and .i64 pl 8191 = pl % 8192 := i64_and8191 pl upl.1 (by omega)
    have x5 : IntKind.i64.wrap (pl % 8192 * 8) = off := by rw [wraps_i64 _ (by omega) (by omega)]; exact hoff
    have x6 : Go.bits .and .i64 (pl / 8192) 1 = pl / 8192 % 2 := i64_and1' _ (by omega) (by omega)
    have x7 : (pl / 8192 % 2 == 1) = mo := by
      rw [hmo]
      rfl
    have X := Aside0.mk (And.intro htot (And.intro hpl (And.intro hpl6 (And.intro hv0 (And.intro hhd (And.intro hidn (And.intro hda (And.intro hS hE))))))))
    have hd60 : hd ≤ 60 := by omega
    have ht : tot ≤ 65535 := by omega
    have off0 : (0 : Int) ≤ off := by omega
    have off1 : off ≤ 65528 := by omega
    clear hp hRES hr hby hnl a0 a8 a9 h20 htot hpl hpl6 hv0 hv8 hv9 hhd hidn hda hS hE hoff hmo hdl u6 b6 b7
    go_enter Try.func64, Try.ntmps64
    go_wp2_with (fail)
    have h49 : Calls Try.prog 49 #[.slice (some ad) n c, .int .i64 18] ((w.alloc (.cells #[.slice (some ad) n c] 27)).alloc (.cells zeroC 55)) fun e w' => e = .returned (.tuple #[.int .i64 (u16 l 18), .bool true]) ∧ Aside0 (Below w.heap.size w w') ∧ Aside0 (w'.heap[w.heap.size]? = some (.cells #[.slice (some ad) n c] 27 (0, 0))) ∧ Aside0 (w'.heap[w.heap.size + 1]? = some (.cells zeroC 55 (0, 0))) :=
      (H49.out _ (below_alloc (below_alloc (Below.refl w.heap.size w) (.cells #[.slice (some ad) n c] 27)) (.cells zeroC 55))).mono fun e w' ⟨h1, m, h2⟩ => by
        subst h2
        exact ⟨h1, ⟨pw_below_drewN (below_alloc (below_alloc (Below.refl _ _) _) _) m⟩, ⟨blk_alloc (blk_at rfl) _⟩, ⟨blk_at (W := w.alloc _) (by simp)⟩⟩
    refine h49.mono ?_
    rintro e1 w1 ⟨rfl, HB1, HX1, HG1⟩
    clear h49
    have k0 : w1.cell? ⟨w.heap.size, 0, none⟩ = some (.slice (some ad) n c) := blk_cell HX1.out 0
    have j0 := pw_cell_at HB1.out HA.out.1
    have h2 : Aside0 (∀ q, Calls Try.prog 112 #[.int .i64 2, .pointer (some ⟨w.heap.size, 0, none⟩)] (w1.drewN q) fun e w' => e = .returned (.int .i64 (tot : Int)) ∧ ∃ m, w' = (w1.drewN q).drewN m) := ⟨fun q => by
      have h := H112.out (w1.drewN q) 2 (pw_below_drewN HB1.out q) (blk_cell (g := w.heap.size) HX1.out 0) (by omega) (by omega)
      rw [X.out.1] at h
      exact h⟩
    have h6 : Aside0 (∀ q, Calls Try.prog 112 #[.int .i64 6, .pointer (some ⟨w.heap.size, 0, none⟩)] (w1.drewN q) fun e w' => e = .returned (.int .i64 pl) ∧ ∃ m, w' = (w1.drewN q).drewN m) := ⟨fun q => by
      have h := H112.out (w1.drewN q) 6 (pw_below_drewN HB1.out q) (blk_cell (g := w.heap.size) HX1.out 0) (by omega) (by omega)
      rw [X.out.2.1] at h
      exact h⟩
    go_upto_region 6 with (fail)
    go_quiet ((go_at_call 112; with_reducible first | exact Calls.quiet_of (h2.out _) | exact Calls.quiet_of (h6.out _)))
    have HB2 : Aside0 (Below w.heap.size w (w1.drewN nq)) := ⟨pw_below_drewN HB1.out nq⟩
    have HX2 : Aside0 ((w1.drewN nq).heap[w.heap.size]? = some (.cells #[.slice (some ad) n c] 27 (0, 0))) := ⟨HX1.out⟩
    have HG2 : Aside0 ((w1.drewN nq).heap[w.heap.size + 1]? = some (.cells zeroC 55 (0, 0))) := ⟨HG1.out⟩
    clear HB1 HX1 HG1 k0 j0 h2 h6
    generalize w1.drewN nq = w2 at HB2 HX2 HG2 ⊢
    have k0 : w2.cell? ⟨w.heap.size, 0, none⟩ = some (.slice (some ad) n c) := blk_cell HX2.out 0
    have j0 := pw_cell_at HB2.out HA.out.1
    by_cases z1 : v0 / 16 ≠ 4
    · have HRC : Aside0 (RES = (zeroV, 3)) := ⟨by rw [HP0.out, if_pos z1]⟩
      have y1 : (v0 / 16 != 4) = true := by simpa using z1
      clear z1
      go_wp2_with (refine wpList_store_row rfl 55 (.tmp 2) (.tmp 52) rfl (w.heap.size + 1) zeroC rfl rfl 55 zeroC HG2.out (by kernel_rfl) rfl zeroC_one ?_)
      refine bodyPost_ret (results_cell_tmp rfl _ _ (w.heap.size + 1) 55 zeroC (0, 0) _ (.int .i64 3) rfl rfl (setRow_heap _ _ _ _ _ _ HG2.out) Try.underlying55 rfl (by kernel_rfl)) rfl ?_
      rw [HRC.out]
      exact fail_post (g := 0) 3 (below_setRow HB2.out (by omega) _)
    have HP1 : Aside0 (RES = if hd < 20 ∨ n < hd then (zeroV, 4) else if tot < hd ∨ n < tot then (zeroV, 5) else if S ≠ 65535 then (zeroV, 6) else if v8 = 0 then (zeroV, 26) else if 128 ≤ pl / 256 then (zeroV, 10) else if E ≠ 0 then (zeroV, E) else if mo = true ∧ ((tot : Int) - hd) % 8 ≠ 0 then (zeroV, 5) else if 65515 < off + ((tot : Int) - hd) then (zeroV, 11) else if mo = true ∨ 0 < off then (⟨4, addrOf ((l.drop 12).take 4), addrOf ((l.drop 16).take 4), v9, v8, true, idn, off, mo, [], da⟩, 0) else (⟨4, addrOf ((l.drop 12).take 4), addrOf ((l.drop 16).take 4), v9, v8, false, 0, 0, false, [], da⟩, 0)) := ⟨by rw [HP0.out, if_neg z1]⟩
    have y1 : (v0 / 16 != 4) = false := by simpa using z1
    clear z1 HP0
    by_cases z2 : hd < 20 ∨ n < hd
    · have HRC : Aside0 (RES = (zeroV, 4)) := ⟨by rw [HP1.out, if_pos z2]⟩
      by_cases z3 : hd < 20
      · have q1 : (hd : Int) < 20 := by omega
        clear z2 z3
        go_wp2_with (refine wpList_store_row rfl 55 (.tmp 2) (.tmp 62) rfl (w.heap.size + 1) zeroC rfl rfl 55 zeroC HG2.out (by kernel_rfl) rfl zeroC_one ?_)
        refine bodyPost_ret (results_cell_tmp rfl _ _ (w.heap.size + 1) 55 zeroC (0, 0) _ (.int .i64 4) rfl rfl (setRow_heap _ _ _ _ _ _ HG2.out) Try.underlying55 rfl (by kernel_rfl)) rfl ?_
        rw [HRC.out]
        exact fail_post (g := 0) 4 (below_setRow HB2.out (by omega) _)
      · have q1 : (20 : Int) ≤ (hd : Int) := by omega
        have q2 : (n : Int) < (hd : Int) := by omega
        clear z2 z3
        go_wp2_with (refine wpList_store_row rfl 55 (.tmp 2) (.tmp 62) rfl (w.heap.size + 1) zeroC rfl rfl 55 zeroC HG2.out (by kernel_rfl) rfl zeroC_one ?_)
        refine bodyPost_ret (results_cell_tmp rfl _ _ (w.heap.size + 1) 55 zeroC (0, 0) _ (.int .i64 4) rfl rfl (setRow_heap _ _ _ _ _ _ HG2.out) Try.underlying55 rfl (by kernel_rfl)) rfl ?_
        rw [HRC.out]
        exact fail_post (g := 0) 4 (below_setRow HB2.out (by omega) _)
    have HP2 : Aside0 (RES = if tot < hd ∨ n < tot then (zeroV, 5) else if S ≠ 65535 then (zeroV, 6) else if v8 = 0 then (zeroV, 26) else if 128 ≤ pl / 256 then (zeroV, 10) else if E ≠ 0 then (zeroV, E) else if mo = true ∧ ((tot : Int) - hd) % 8 ≠ 0 then (zeroV, 5) else if 65515 < off + ((tot : Int) - hd) then (zeroV, 11) else if mo = true ∨ 0 < off then (⟨4, addrOf ((l.drop 12).take 4), addrOf ((l.drop 16).take 4), v9, v8, true, idn, off, mo, [], da⟩, 0) else (⟨4, addrOf ((l.drop 12).take 4), addrOf ((l.drop 16).take 4), v9, v8, false, 0, 0, false, [], da⟩, 0)) := ⟨by rw [HP1.out, if_neg z2]⟩
    have hd20 : (20 : Int) ≤ (hd : Int) := by omega
    have hdn : (hd : Int) ≤ (n : Int) := by omega
    clear z2 HP1
    by_cases z2 : tot < hd ∨ n < tot
    · have HRC : Aside0 (RES = (zeroV, 5)) := ⟨by rw [HP2.out, if_pos z2]⟩
      by_cases z3 : tot < hd
      · have q1 : (tot : Int) - (hd : Int) < 0 := by omega
        clear z2 z3
        go_wp2_with (refine wpList_store_row rfl 55 (.tmp 2) (.tmp 72) rfl (w.heap.size + 1) zeroC rfl rfl 55 zeroC HG2.out (by kernel_rfl) rfl zeroC_one ?_)
        refine bodyPost_ret (results_cell_tmp rfl _ _ (w.heap.size + 1) 55 zeroC (0, 0) _ (.int .i64 5) rfl rfl (setRow_heap _ _ _ _ _ _ HG2.out) Try.underlying55 rfl (by kernel_rfl)) rfl ?_
        rw [HRC.out]
        exact fail_post (g := 0) 5 (below_setRow HB2.out (by omega) _)
      · have q1 : 0 ≤ (tot : Int) - (hd : Int) := by omega
        have q2 : (n : Int) < (tot : Int) := by omega
        clear z2 z3
        go_wp2_with (refine wpList_store_row rfl 55 (.tmp 2) (.tmp 72) rfl (w.heap.size + 1) zeroC rfl rfl 55 zeroC HG2.out (by kernel_rfl) rfl zeroC_one ?_)
        refine bodyPost_ret (results_cell_tmp rfl _ _ (w.heap.size + 1) 55 zeroC (0, 0) _ (.int .i64 5) rfl rfl (setRow_heap _ _ _ _ _ _ HG2.out) Try.underlying55 rfl (by kernel_rfl)) rfl ?_
        rw [HRC.out]
        exact fail_post (g := 0) 5 (below_setRow HB2.out (by omega) _)
    have HP3 : Aside0 (RES = if S ≠ 65535 then (zeroV, 6) else if v8 = 0 then (zeroV, 26) else if 128 ≤ pl / 256 then (zeroV, 10) else if E ≠ 0 then (zeroV, E) else if mo = true ∧ ((tot : Int) - hd) % 8 ≠ 0 then (zeroV, 5) else if 65515 < off + ((tot : Int) - hd) then (zeroV, 11) else if mo = true ∨ 0 < off then (⟨4, addrOf ((l.drop 12).take 4), addrOf ((l.drop 16).take 4), v9, v8, true, idn, off, mo, [], da⟩, 0) else (⟨4, addrOf ((l.drop 12).take 4), addrOf ((l.drop 16).take 4), v9, v8, false, 0, 0, false, [], da⟩, 0)) := ⟨by rw [HP2.out, if_neg z2]⟩
    have q0 : 0 ≤ (tot : Int) - (hd : Int) := by omega
    have hdt : (hd : Int) ≤ (tot : Int) := by omega
    have htn : (tot : Int) ≤ (n : Int) := by omega
    clear z2 HP2
    have hcut : ∀ W : World, (Instr.slice 27 (.slice (some ad) n c) none (some (.int .i64 (hd : Int))) none).run Try.prog W = .ok (.slice (some ad) hd c) W := by
      obtain ⟨i0, hi0, _, hsz0, _⟩ := info_parts info5
      have h := cut_to (P := Try.prog) 27 5 .i64 Try.underlying27 hi0 (some ad) n c (hd : Int) (by omega) (by omega) hc
      rw [Int.toNat_natCast] at h
      exact h
    have hchk : ∀ W, Below w2.heap.size w2 W → W.heap[w2.heap.size]? = some (.cells #[.slice (some ad) hd c] 27 (0, 0)) → Calls Try.prog 41 #[.slice (some ⟨w2.heap.size, 0, none⟩) 1 1] W fun e w' => e = .returned (.int .i64 (65535 - S)) ∧ Below W.heap.size W w' := fun W hW hl => by
      rw [X.out.2.2.2.2.2.2.2.1]
      exact Check_at (parts_one hl (C_takeN (Kd.C_below HR.out.1 (below_then HB2.out HB2.out.size hW)) hd (by omega)) (by omega)) (by omega) (okP_iff.2 ⟨by simp, fun q hq => by
        simp at hq
        subst hq
        exact ⟨fun y hy => HR.out.2.1 y (List.mem_of_mem_take hy), by rw [List.length_take]; omega⟩⟩)
    have HCHK := Aside0.mk hchk
    obtain ⟨A', hA'⟩ : ∃ A', A' = (if c = 20 then some ad else (some ad).map (·.add (20 * 1))) := ⟨_, rfl⟩
    have hcut2 : ∀ W : World, (Instr.slice 27 (.slice (some ad) n c) (some (.int .i64 20)) (some (.int .i64 (hd : Int))) none).run Try.prog W = .ok (.slice A' (hd - 20) (c - 20)) W := by
      obtain ⟨i0, hi0, _, hsz0, _⟩ := info_parts info5
      have h := cut_mid (P := Try.prog) 27 5 .i64 .i64 Try.underlying27 hi0 1 hsz0 (some ad) n c 20 (hd : Int) (by omega) (by omega) (by omega) hc
      rw [show (20 : Int).toNat = 20 from rfl, Int.toNat_natCast] at h
      rw [hA']
      exact h
    have hopt : ∀ W, Below w.heap.size w W → Calls Try.prog 113 #[.slice A' (hd - 20) (c - 20)] W fun e w' => e = .returned (.int .i64 E) ∧ Below W.heap.size W w' := fun W hW => by
      have h1 := C_midN (Kd.C_below HR.out.1 hW) hc 20 (hd - 20) (by omega)
      rw [← hA', show (l.drop 20).take (hd - 20) = (l.take hd).drop 20 by rw [List.drop_take]] at h1
      rw [X.out.2.2.2.2.2.2.2.2]
      exact Opt4_at h1 (by omega) (fun y hy => HR.out.2.1 y (List.mem_of_mem_take (List.mem_of_mem_drop hy))) (by omega)
    have HOPT := Aside0.mk hopt
    clear hchk hA' hopt
    by_cases z1 : S ≠ 65535
    · have HRC : Aside0 (RES = (zeroV, 6)) := ⟨by rw [HP3.out, if_pos z1]⟩
      have y2 : (65535 - S != 0) = true := by
        simp
        omega
      clear z1
      go_wp2_with (first | (go_at_call 41; refine (HCHK.out _ (below_alloc (Below.refl _ _) _) (blk_at rfl)).mono ?_; rintro e2 w3 ⟨rfl, hb2⟩; have HG3 := Aside0.mk ((hb2.block _ (by rw [size_alloc']; have := lt_of_heap HG2.out; omega)).trans (blk_alloc HG2.out _)); have HB3 := Aside0.mk (below_then (below_alloc HB2.out (.cells #[.slice (some ad) hd c] 27)) (by rw [size_alloc']; have := HB2.out.size; omega) hb2); clear hb2) | (refine wpList_store_row rfl 55 (.tmp 2) (.tmp 80) rfl (w.heap.size + 1) zeroC rfl rfl 55 zeroC HG3.out (by kernel_rfl) rfl zeroC_one ?_))
      refine bodyPost_ret (results_cell_tmp rfl _ _ (w.heap.size + 1) 55 zeroC (0, 0) _ (.int .i64 6) rfl rfl (setRow_heap _ _ _ _ _ _ HG3.out) Try.underlying55 rfl (by kernel_rfl)) rfl ?_
      rw [HRC.out]
      exact fail_post (g := 0) 6 (below_setRow HB3.out (by omega) _)
    have HP4 : Aside0 (RES = if v8 = 0 then (zeroV, 26) else if 128 ≤ pl / 256 then (zeroV, 10) else if E ≠ 0 then (zeroV, E) else if mo = true ∧ ((tot : Int) - hd) % 8 ≠ 0 then (zeroV, 5) else if 65515 < off + ((tot : Int) - hd) then (zeroV, 11) else if mo = true ∨ 0 < off then (⟨4, addrOf ((l.drop 12).take 4), addrOf ((l.drop 16).take 4), v9, v8, true, idn, off, mo, [], da⟩, 0) else (⟨4, addrOf ((l.drop 12).take 4), addrOf ((l.drop 16).take 4), v9, v8, false, 0, 0, false, [], da⟩, 0)) := ⟨by rw [HP3.out, if_neg z1]⟩
    have y2 : (65535 - S != 0) = false := by
      simp
      omega
    clear z1 HP3
    go_wp2_with (fail)
    refine (HCHK.out _ (below_alloc (Below.refl _ _) _) (blk_at rfl)).mono ?_
    rintro e2 w3 ⟨rfl, hb2⟩
    have HG3 := Aside0.mk ((hb2.block _ (by rw [size_alloc']; have := lt_of_heap HG2.out; omega)).trans (blk_alloc HG2.out _))
    have HX3 := Aside0.mk ((hb2.block _ (by rw [size_alloc']; have := lt_of_heap HX2.out; omega)).trans (blk_alloc HX2.out _))
    have HB3 := Aside0.mk (below_then (below_alloc HB2.out (.cells #[.slice (some ad) hd c] 27)) (by rw [size_alloc']; have := HB2.out.size; omega) hb2)
    clear hb2 k0 j0 HB2 HX2 HG2 HCHK hcut
    have k0 : w3.cell? ⟨w.heap.size, 0, none⟩ = some (.slice (some ad) n c) := blk_cell HX3.out 0
    have j8 := pw_cell_at HB3.out HA.out.2.1
    have r8 : (8 : Int) < (n : Int) := by omega
    by_cases z1 : v8 = 0
    · have HRC : Aside0 (RES = (zeroV, 26)) := ⟨by rw [HP4.out, if_pos z1]⟩
      have y3 : (v8 == 0) = true := by simpa using z1
      clear z1
      go_wp2_with (refine wpList_store_row rfl 55 (.tmp 2) (.tmp 86) rfl (w.heap.size + 1) zeroC rfl rfl 55 zeroC HG3.out (by kernel_rfl) rfl zeroC_one ?_)
      refine bodyPost_ret (results_cell_tmp rfl _ _ (w.heap.size + 1) 55 zeroC (0, 0) _ (.int .i64 26) rfl rfl (setRow_heap _ _ _ _ _ _ HG3.out) Try.underlying55 rfl (by kernel_rfl)) rfl ?_
      rw [HRC.out]
      exact fail_post (g := 0) 26 (below_setRow HB3.out (by omega) _)
    have y3 : (v8 == 0) = false := by simpa using z1
    by_cases z2 : 128 ≤ pl / 256
    · have HRC : Aside0 (RES = (zeroV, 10)) := ⟨by rw [HP4.out, if_neg z1, if_pos z2]⟩
      have y4 : (pl / 32768 != 0) = true := by
        simp
        omega
      clear z1 z2
      go_wp2_with (refine wpList_store_row rfl 55 (.tmp 2) (.tmp 91) rfl (w.heap.size + 1) zeroC rfl rfl 55 zeroC HG3.out (by kernel_rfl) rfl zeroC_one ?_)
      refine bodyPost_ret (results_cell_tmp rfl _ _ (w.heap.size + 1) 55 zeroC (0, 0) _ (.int .i64 10) rfl rfl (setRow_heap _ _ _ _ _ _ HG3.out) Try.underlying55 rfl (by kernel_rfl)) rfl ?_
      rw [HRC.out]
      exact fail_post (g := 0) 10 (below_setRow HB3.out (by omega) _)
    have y4 : (pl / 32768 != 0) = false := by
      simp
      omega
    have HP5 : Aside0 (RES = if E ≠ 0 then (zeroV, E) else if mo = true ∧ ((tot : Int) - hd) % 8 ≠ 0 then (zeroV, 5) else if 65515 < off + ((tot : Int) - hd) then (zeroV, 11) else if mo = true ∨ 0 < off then (⟨4, addrOf ((l.drop 12).take 4), addrOf ((l.drop 16).take 4), v9, v8, true, idn, off, mo, [], da⟩, 0) else (⟨4, addrOf ((l.drop 12).take 4), addrOf ((l.drop 16).take 4), v9, v8, false, 0, 0, false, [], da⟩, 0)) := ⟨by rw [HP4.out, if_neg z1, if_neg z2]⟩
    clear z1 z2 HP4
    go_upto_region 21 with (go_at_call 113; refine (HOPT.out _ HB3.out).mono ?_; rintro e4 w4 ⟨rfl, hb4⟩; have HG4 := Aside0.mk ((hb4.block _ (lt_of_heap HG3.out)).trans HG3.out); have HX4 := Aside0.mk ((hb4.block _ (lt_of_heap HX3.out)).trans HX3.out); have HB4 := Aside0.mk (below_then HB3.out HB3.out.size hb4); clear hb4)
    clear k0 j8 HG3 HX3 HB3 HOPT hcut2
    by_cases z1 : E ≠ 0
    · have HRC : Aside0 (RES = (zeroV, E)) := ⟨by rw [HP5.out, if_pos z1]⟩
      have y5 : (E != 0) = true := by simpa using z1
      clear z1
      go_wp2_with (refine wpList_store_row rfl 55 (.tmp 2) (.tmp 98) rfl (w.heap.size + 1) zeroC rfl rfl 55 zeroC HG4.out (by kernel_rfl) rfl zeroC_one ?_)
      refine bodyPost_ret (results_cell_tmp rfl _ _ (w.heap.size + 1) 55 zeroC (0, 0) _ (.int .i64 E) rfl rfl (setRow_heap _ _ _ _ _ _ HG4.out) Try.underlying55 rfl (by kernel_rfl)) rfl ?_
      rw [HRC.out]
      exact fail_post (g := 0) E (below_setRow HB4.out (by omega) _)
    have y5 : (E != 0) = false := by simpa using z1
    have HP6 : Aside0 (RES = if mo = true ∧ ((tot : Int) - hd) % 8 ≠ 0 then (zeroV, 5) else if 65515 < off + ((tot : Int) - hd) then (zeroV, 11) else if mo = true ∨ 0 < off then (⟨4, addrOf ((l.drop 12).take 4), addrOf ((l.drop 16).take 4), v9, v8, true, idn, off, mo, [], da⟩, 0) else (⟨4, addrOf ((l.drop 12).take 4), addrOf ((l.drop 16).take 4), v9, v8, false, 0, 0, false, [], da⟩, 0)) := ⟨by rw [HP5.out, if_neg z1]⟩
    clear z1 HP5
    have hm8 := HDL.out
    rw [if_pos ⟨by omega, by omega⟩] at hm8
    have HLEN := Aside0.mk hm8
    clear hm8 HDL
    cases mo with
    | true =>
      by_cases z5 : ((tot : Int) - hd) % 8 ≠ 0
      · have HRC : Aside0 (RES = (zeroV, 5)) := ⟨by rw [HP6.out, if_pos ⟨rfl, z5⟩]⟩
        have y7 : (((tot : Int) - (hd : Int)) % 8 != 0) = true := by simpa using z5
        clear z5
        go_wp2_with (refine wpList_store_row rfl 55 (.tmp 2) (.tmp 107) rfl (w.heap.size + 1) zeroC rfl rfl 55 zeroC HG4.out (by kernel_rfl) rfl zeroC_one ?_)
        refine bodyPost_ret (results_cell_tmp rfl _ _ (w.heap.size + 1) 55 zeroC (0, 0) _ (.int .i64 5) rfl rfl (setRow_heap _ _ _ _ _ _ HG4.out) Try.underlying55 rfl (by kernel_rfl)) rfl ?_
        rw [HRC.out]
        exact fail_post (g := 0) 5 (below_setRow HB4.out (by omega) _)
      have y7 : (((tot : Int) - (hd : Int)) % 8 != 0) = false := by simpa using z5
      have HP8 : Aside0 (RES = if 65515 < off + ((tot : Int) - hd) then (zeroV, 11) else (⟨4, addrOf ((l.drop 12).take 4), addrOf ((l.drop 16).take 4), v9, v8, true, idn, off, true, [], da⟩, 0)) := ⟨by rw [HP6.out, if_neg (fun h => z5 h.2), if_pos (Or.inl rfl)]⟩
      clear z5 HP6
      by_cases z6 : 65515 < off + ((tot : Int) - hd)
      · have HRC : Aside0 (RES = (zeroV, 11)) := ⟨by rw [HP8.out, if_pos z6]⟩
        have q6 : 65515 < off + ((tot : Int) - (hd : Int)) := z6
        clear z6
        go_wp2_with (refine wpList_store_row rfl 55 (.tmp 2) (.tmp 113) rfl (w.heap.size + 1) zeroC rfl rfl 55 zeroC HG4.out (by kernel_rfl) rfl zeroC_one ?_)
        refine bodyPost_ret (results_cell_tmp rfl _ _ (w.heap.size + 1) 55 zeroC (0, 0) _ (.int .i64 11) rfl rfl (setRow_heap _ _ _ _ _ _ HG4.out) Try.underlying55 rfl (by kernel_rfl)) rfl ?_
        rw [HRC.out]
        exact fail_post (g := 0) 11 (below_setRow HB4.out (by omega) _)
      have HP9 : Aside0 (RES = (⟨4, addrOf ((l.drop 12).take 4), addrOf ((l.drop 16).take 4), v9, v8, true, idn, off, true, [], da⟩, 0)) := ⟨by rw [HP8.out, if_neg z6]⟩
      have q6 : off + ((tot : Int) - (hd : Int)) ≤ 65515 := by omega
      clear z6 HP8
      go_upto_region 27 with (fail)
      have w8 : IntKind.i64.wrap v8 = v8 := wraps_i64 _ (by omega) (by omega)
      have w9 : IntKind.i64.wrap v9 = v9 := wraps_i64 _ (by omega) (by omega)
      have r9 : (9 : Int) < (n : Int) := by omega
      clear x1 x2 x3 x4 x5 x6 x7 y1 y2 y3 y4 y5
      have hl4 := lt_of_heap HG4.out
      have k0 : w4.cell? ⟨w.heap.size, 0, none⟩ = some (.slice (some ad) n c) := blk_cell HX4.out 0
      have j8 := pw_cell_at HB4.out HA.out.2.1
      have j9 := pw_cell_at HB4.out HA.out.2.2
      have kd0 : w4.drew.cell? ⟨w.heap.size, 0, none⟩ = some (.slice (some ad) n c) := k0
      have kd8 : w4.drew.cell? ⟨ad.block, ad.off + 8, none⟩ = some (.int .u8 v8) := j8
      have kd9 : w4.drew.cell? ⟨ad.block, ad.off + 9, none⟩ = some (.int .u8 v9) := j9
      have ka0 : ∀ o, (w4.alloc o).drew.cell? ⟨w.heap.size, 0, none⟩ = some (.slice (some ad) n c) := fun o => pw_cell_below (below_alloc (Below.refl _ _) o) k0
      have ka8 : ∀ o, (w4.alloc o).drew.cell? ⟨ad.block, ad.off + 8, none⟩ = some (.int .u8 v8) := fun o => pw_cell_below (below_alloc (Below.refl _ _) o) j8
      have ka9 : ∀ o, (w4.alloc o).drew.cell? ⟨ad.block, ad.off + 9, none⟩ = some (.int .u8 v9) := fun o => pw_cell_below (below_alloc (Below.refl _ _) o) j9
      obtain ⟨A2, hA2⟩ : ∃ A', A' = (if c = hd then some ad else (some ad).map (·.add (hd * 1))) := ⟨_, rfl⟩
      have hcut3 : ∀ W : World, (Instr.slice 27 (.slice (some ad) n c) (some (.int .i64 (hd : Int))) (some (.int .i64 (tot : Int))) none).run Try.prog W = .ok (.slice A2 da.length (c - hd)) W := by
        obtain ⟨i0, hi0, _, hsz0, _⟩ := info_parts info5
        have h := cut_mid (P := Try.prog) 27 5 .i64 .i64 Try.underlying27 hi0 1 hsz0 (some ad) n c (hd : Int) (tot : Int) (by omega) (by omega) (by omega) hc
        rw [Int.toNat_natCast, Int.toNat_natCast] at h
        rw [hA2, HLEN.out]
        exact h
      have HCL : Aside0 (∀ W, Below w.heap.size w W → Calls Try.prog 98 #[.slice A2 da.length (c - hd)] W fun e w' => ∃ v0_ : Value, e = .returned (v0_) ∧ Kd.R (Kd.int .u8) 5 w' W.heap.size (fun _ => True) v0_ da ∧ Below W.heap.size W w') := ⟨fun W hW => by
        have h1 := C_midN (Kd.C_below HR.out.1 hW) hc hd (tot - hd) (by omega)
        rw [← hA2, show (l.drop hd).take (tot - hd) = (l.take tot).drop hd by rw [List.drop_take], ← X.out.2.2.2.2.2.2.1, ← HLEN.out] at h1
        exact Clone_at h1 (by have := HLEN.out; omega) (by have := HLEN.out; omega)⟩
      clear hA2
      have e0 : w.heap.size ≠ w4.heap.size := by omega
      have e1 : ad.block ≠ w4.heap.size := by
        have h1 := C_block HR.out.1 (by omega)
        have h2 := HB4.out.size
        omega
      go_cut [15] (fun v wc => ∃ (pb : Nat) (Ad : Option Addr) (cd : Nat), v = .pointer (some ⟨pb, 0, none⟩) ∧ Aside0 (MidX w pb (.slice Ad da.length cd) da (ipCells ⟨4, (0, 0, 0), (0, 0, 0), v9, v8, false, 0, 0, false, [], []⟩ (.slice none 0 0) (.slice Ad da.length cd)) (.slice (some ad) n c) wc))
      case first =>
        go_region_held3 (fun w' => w'.cell? ⟨w.heap.size, 0, none⟩ = some (.slice (some ad) n c) ∧ w'.cell? ⟨ad.block, ad.off + 8, none⟩ = some (.int .u8 v8) ∧ w'.cell? ⟨ad.block, ad.off + 9, none⟩ = some (.int .u8 v9)) (first | with_reducible exact ⟨t0, t8, t9⟩ | with_reducible exact ⟨kd0, kd8, kd9⟩ | with_reducible exact ⟨ka0 _, ka8 _, ka9 _⟩ | with_reducible exact ⟨keep15 e0 t0, keep15 e1 t8, keep15 e1 t9⟩ | with_reducible exact ⟨ta0 _, ta8 _, ta9 _⟩)
          ((go_at_call 98; first
            | (refine (HCL.out (w4.drew) (below_drew HB4.out)).mono ?_; rintro e5 w5 ⟨vD, rfl, hD, hb5⟩; obtain ⟨Ad, cd, hvD⟩ := Kd.R_slice hD; subst hvD; have t0 := pw_cell_at (w := w4.drew) hb5 kd0; have t8 := pw_cell_at (w := w4.drew) hb5 kd8; have t9 := pw_cell_at (w := w4.drew) hb5 kd9; have ta0 : ∀ o, (w5.alloc o).cell? ⟨w.heap.size, 0, none⟩ = some (.slice (some ad) n c) := fun o => pw_cell_below (below_alloc (Below.refl _ _) o) t0; have ta8 : ∀ o, (w5.alloc o).cell? ⟨ad.block, ad.off + 8, none⟩ = some (.int .u8 v8) := fun o => pw_cell_below (below_alloc (Below.refl _ _) o) t8; have ta9 : ∀ o, (w5.alloc o).cell? ⟨ad.block, ad.off + 9, none⟩ = some (.int .u8 v9) := fun o => pw_cell_below (below_alloc (Below.refl _ _) o) t9; have G5 := Aside0.mk (show w5.heap[w.heap.size + 1]? = some (.cells zeroC 55 (0, 0)) from (hb5.block _ (lt_of_heap HG4.out)).trans HG4.out); have X5 := Aside0.mk (show w5.heap[w.heap.size]? = some (.cells #[.slice (some ad) n c] 27 (0, 0)) from (hb5.block _ (lt_of_heap HX4.out)).trans HX4.out); have B5 := Aside0.mk (below_then (below_drew HB4.out) HB4.out.size hb5); have D5 := Aside0.mk (Kd.R_lower hD HB4.out.size); clear hD hb5)
            | (refine (HCL.out _ (below_drew (below_alloc HB4.out (.cells zeroC 55)))).mono ?_; rintro e5 w5 ⟨vD, rfl, hD, hb5⟩; obtain ⟨Ad, cd, hvD⟩ := Kd.R_slice hD; subst hvD; have t0 := pw_cell_at hb5 (ka0 _); have t8 := pw_cell_at hb5 (ka8 _); have t9 := pw_cell_at hb5 (ka9 _); have P5 := Aside0.mk (show w5.heap[w4.heap.size]? = some (.cells zeroC 55 (0, 0)) from (hb5.block _ (by show _ < (w4.alloc _).heap.size; rw [size_alloc']; omega)).trans (blk_at rfl)); have G5 := Aside0.mk (show w5.heap[w.heap.size + 1]? = some (.cells zeroC 55 (0, 0)) from (hb5.block _ (by show _ < (w4.alloc _).heap.size; rw [size_alloc']; omega)).trans (blk_alloc HG4.out _)); have X5 := Aside0.mk (show w5.heap[w.heap.size]? = some (.cells #[.slice (some ad) n c] 27 (0, 0)) from (hb5.block _ (by show _ < (w4.alloc _).heap.size; rw [size_alloc']; omega)).trans (blk_alloc HX4.out _)); have B5 := Aside0.mk (below_then (below_drew (below_alloc HB4.out (.cells zeroC 55))) (by show _ ≤ (w4.alloc _).heap.size; rw [size_alloc']; omega) hb5); have D5 := Aside0.mk (Kd.R_lower hD (show w.heap.size ≤ (w4.alloc (.cells zeroC 55)).heap.size by rw [size_alloc']; omega)); clear hD hb5; have p0 : w5.cell? ⟨w4.heap.size, 0, none⟩ = some (.int .i64 0) := blk_cell P5.out 0; have f0 := blk_unfrozen P5.out 0; have p1 : w5.cell? ⟨w4.heap.size, 1, none⟩ = some (.int .i64 0) := blk_cell P5.out 1; have f1 := blk_unfrozen P5.out 1; have p2 : w5.cell? ⟨w4.heap.size, 2, none⟩ = some (.int .u64 0) := blk_cell P5.out 2; have f2 := blk_unfrozen P5.out 2; have p3 : w5.cell? ⟨w4.heap.size, 3, none⟩ = some (.int .u64 0) := blk_cell P5.out 3; have f3 := blk_unfrozen P5.out 3; have p4 : w5.cell? ⟨w4.heap.size, 4, none⟩ = some (.int .i64 0) := blk_cell P5.out 4; have f4 := blk_unfrozen P5.out 4; have p5 : w5.cell? ⟨w4.heap.size, 5, none⟩ = some (.int .u64 0) := blk_cell P5.out 5; have f5 := blk_unfrozen P5.out 5; have p6 : w5.cell? ⟨w4.heap.size, 6, none⟩ = some (.int .u64 0) := blk_cell P5.out 6; have f6 := blk_unfrozen P5.out 6; have p7 : w5.cell? ⟨w4.heap.size, 7, none⟩ = some (.int .i64 0) := blk_cell P5.out 7; have f7 := blk_unfrozen P5.out 7; have p8 : w5.cell? ⟨w4.heap.size, 8, none⟩ = some (.int .i64 0) := blk_cell P5.out 8; have f8 := blk_unfrozen P5.out 8; have p9 : w5.cell? ⟨w4.heap.size, 9, none⟩ = some (.bool false) := blk_cell P5.out 9; have f9 := blk_unfrozen P5.out 9; have p10 : w5.cell? ⟨w4.heap.size, 10, none⟩ = some (.int .u32 0) := blk_cell P5.out 10; have f10 := blk_unfrozen P5.out 10; have p11 : w5.cell? ⟨w4.heap.size, 11, none⟩ = some (.int .i64 0) := blk_cell P5.out 11; have f11 := blk_unfrozen P5.out 11; have p12 : w5.cell? ⟨w4.heap.size, 12, none⟩ = some (.bool false) := blk_cell P5.out 12; have f12 := blk_unfrozen P5.out 12; have p13 : w5.cell? ⟨w4.heap.size, 13, none⟩ = some (.slice none 0 0) := blk_cell P5.out 13; have f13 := blk_unfrozen P5.out 13; have p14 : w5.cell? ⟨w4.heap.size, 14, none⟩ = some (.slice none 0 0) := blk_cell P5.out 14; have f14 := blk_unfrozen P5.out 14)))
        all_goals
          go_wp2
          go_meet
          case rel => first
            | exact ⟨w4.heap.size, Ad, cd, rfl, ⟨((((((((((((((((MidX.mk (MidP.mk G5.out P5.out hl4 (Nat.le_succ _) D5.out B5.out) X5.out).set 0 (.int .i64 4)).set 1 (.int .i64 0)).set 2 (.int .u64 0)).set 3 (.int .u64 0)).set 4 (.int .i64 0)).set 5 (.int .u64 0)).set 6 (.int .u64 0)).set 7 (.int .i64 v9)).set 8 (.int .i64 v8)).set 9 (.bool false)).set 10 (.int .u32 0)).set 11 (.int .i64 0)).set 12 (.bool false)).set 13 (.slice none 0 0)).set 14 (.slice Ad da.length cd))⟩⟩
            | exact ⟨w5.heap.size, Ad, cd, rfl, ⟨⟨⟨blk_alloc G5.out _, blk_at rfl, lt_of_heap G5.out, Nat.le_succ _, Kd.R_alloc D5.out _, below_alloc B5.out _⟩, blk_alloc X5.out _⟩⟩⟩
      case rest =>
        obtain ⟨pb, Ad, cd, rfl, M1⟩ := hcut
        have hF : ∀ (o : Nat), 0 < o → o + 4 ≤ 20 → ∀ W, Below w.heap.size w W → Calls Try.prog 102 #[.slice (some ⟨ad.block, ad.off + o, none⟩) 4 (c - o)] W fun e w' => e = .returned (.tuple #[.agg #[.int .i64 (fromA ((l.drop o).take 4)).1, .int .u64 (fromA ((l.drop o).take 4)).2.1, .int .u64 (fromA ((l.drop o).take 4)).2.2.1], .int .i64 (fromA ((l.drop o).take 4)).2.2.2]) ∧ Below W.heap.size W w' := fun o ho ho2 W hW => by
          have h := C_midN HR.out.1 hc o 4 (by omega)
          rw [if_neg (by omega), Option.map_some, Nat.mul_one, add_at _ _ ho] at h
          exact From_at (Kd.C_below h hW) (by omega) (fun y hy => HR.out.2.1 y (List.mem_of_mem_drop (List.mem_of_mem_take hy)))
        have hF12 := hF 12 (by omega) (by omega) wc M1.out.m.hB
        have HF16 := Aside0.mk (hF 16 (by omega) (by omega))
        clear hF kd0 kd8 kd9 ka0 ka8 ka9 k0 j8 j9 HG4 HB4 HX4 e0 e1 hl4 HCL hcut3
        have kx := M1.out.box
        go_wp2_with (fail)
        refine hF12.mono ?_
        rintro e5 w5 ⟨rfl, hb5⟩
        have M2 := Aside0.mk (M1.out.below hb5)
        have p1 : w5.cell? ⟨pb, 1, none⟩ = some (.int .i64 0) := blk_cell M2.out.m.p 1
        have p2 : w5.cell? ⟨pb, 2, none⟩ = some (.int .u64 0) := blk_cell M2.out.m.p 2
        have p3 : w5.cell? ⟨pb, 3, none⟩ = some (.int .u64 0) := blk_cell M2.out.m.p 3
        have f1 := blk_unfrozen M2.out.m.p 1
        have f2 := blk_unfrozen M2.out.m.p 2
        have f3 := blk_unfrozen M2.out.m.p 3
        have M3 := Aside0.mk (((M2.out.set 1 (.int .i64 (fromA ((l.drop 12).take 4)).1)).set 2 (.int .u64 (fromA ((l.drop 12).take 4)).2.1)).set 3 (.int .u64 (fromA ((l.drop 12).take 4)).2.2.1))
        clear hb5 hF12 M1 kx
        have kx := M3.out.box
        go_wp2_with (fail)
        refine (HF16.out _ M3.out.m.hB).mono ?_
        rintro e6 w6 ⟨rfl, hb6⟩
        have M4 := Aside0.mk (M3.out.below hb6)
        clear kx p1 p2 p3 f1 f2 f3
        have p1 : w6.cell? ⟨pb, 4, none⟩ = some (.int .i64 0) := blk_cell M4.out.m.p 4
        have p2 : w6.cell? ⟨pb, 5, none⟩ = some (.int .u64 0) := blk_cell M4.out.m.p 5
        have p3 : w6.cell? ⟨pb, 6, none⟩ = some (.int .u64 0) := blk_cell M4.out.m.p 6
        have f1 := blk_unfrozen M4.out.m.p 4
        have f2 := blk_unfrozen M4.out.m.p 5
        have f3 := blk_unfrozen M4.out.m.p 6
        clear hb6 M2 M3
        go_upto_region 30 with (fail)
        have M5 := Aside0.mk (((M4.out.set 4 (.int .i64 (fromA ((l.drop 16).take 4)).1)).set 5 (.int .u64 (fromA ((l.drop 16).take 4)).2.1)).set 6 (.int .u64 (fromA ((l.drop 16).take 4)).2.2.1))
        try go_frame
        clear p1 p2 p3 f1 f2 f3 M4
        generalize ((w6.setCell ⟨pb, 4, none⟩ (.int .i64 (fromA ((l.drop 16).take 4)).1)).setCell ⟨pb, 5, none⟩ (.int .u64 (fromA ((l.drop 16).take 4)).2.1)).setCell ⟨pb, 6, none⟩ (.int .u64 (fromA ((l.drop 16).take 4)).2.2.1) = w7 at *
        have M8 : Aside0 (MidX w pb (.slice Ad da.length cd) da (ipCells ⟨4, addrOf ((l.drop 12).take 4), addrOf ((l.drop 16).take 4), v9, v8, false, 0, 0, false, [], []⟩ (.slice none 0 0) (.slice Ad da.length cd)) (.slice (some ad) n c) w7) := M5
        clear M5
        have hu4 : IntKind.u32.wrap idn = idn := by rw [IntKind.wrap_u32]; omega
        have h112 : Calls Try.prog 112 #[.int .i64 4, .pointer (some ⟨w.heap.size, 0, none⟩)] w7 fun e w' => e = .returned (.int .i64 idn) ∧ Below w7.heap.size w7 w' := by
          have h := H112.out w7 4 M8.out.m.hB M8.out.box (by omega) (by omega)
          rw [← X.out.2.2.2.2.2.1] at h
          exact h.mono fun e w' ⟨h1, m, h2⟩ => ⟨h1, by rw [h2]; exact pw_below_drewN (Below.refl _ _) m⟩
        go_wp2_with (fail)
        refine h112.mono ?_
        rintro e10 w10 ⟨rfl, hb10⟩
        have M9 := Aside0.mk (M8.out.below hb10)
        have p9 : w10.cell? ⟨pb, 9, none⟩ = some (.bool false) := blk_cell M9.out.m.p 9
        have p10 : w10.cell? ⟨pb, 10, none⟩ = some (.int .u32 0) := blk_cell M9.out.m.p 10
        have p11 : w10.cell? ⟨pb, 11, none⟩ = some (.int .i64 0) := blk_cell M9.out.m.p 11
        have p12 : w10.cell? ⟨pb, 12, none⟩ = some (.bool false) := blk_cell M9.out.m.p 12
        have f9 := blk_unfrozen M9.out.m.p 9
        have f10 := blk_unfrozen M9.out.m.p 10
        have f11 := blk_unfrozen M9.out.m.p 11
        have f12 := blk_unfrozen M9.out.m.p 12
        clear hb10 h112 M8
        go_upto_region 32 with (fail)
        have M10 : Aside0 (MidX w pb (.slice Ad da.length cd) da (ipCells ⟨4, addrOf ((l.drop 12).take 4), addrOf ((l.drop 16).take 4), v9, v8, true, idn, off, true, [], []⟩ (.slice none 0 0) (.slice Ad da.length cd)) (.slice (some ad) n c) ((((w10.setCell ⟨pb, 9, none⟩ (.bool true)).setCell ⟨pb, 10, none⟩ (.int .u32 idn)).setCell ⟨pb, 11, none⟩ (.int .i64 off)).setCell ⟨pb, 12, none⟩ (.bool true))) :=
          ⟨((((M9.out.set 9 (.bool true)).set 10 (.int .u32 idn)).set 11 (.int .i64 off)).set 12 (.bool true))⟩
        try go_frame
        clear p9 p10 p11 p12 f9 f10 f11 f12 M9
        generalize (((w10.setCell ⟨pb, 9, none⟩ (.bool true)).setCell ⟨pb, 10, none⟩ (.int .u32 idn)).setCell ⟨pb, 11, none⟩ (.int .i64 off)).setCell ⟨pb, 12, none⟩ (.bool true) = w11 at *
        have HRC : Aside0 (RES = (⟨4, addrOf ((l.drop 12).take 4), addrOf ((l.drop 16).take 4), v9, v8, true, idn, off, true, [], da⟩, 0)) := ⟨by rw [HP9.out]⟩
        go_wp2_with (first | (refine wpList_load_row rfl 55 (.tmp 15) rfl pb rfl 55 _ (0, 0) _ M10.out.m.p Try.underlying55 rfl (by kernel_rfl) ?_) | (refine wpList_store_row rfl 55 (.tmp 2) (.tmp 156) rfl (w.heap.size + 1) (ipCells ⟨4, addrOf ((l.drop 12).take 4), addrOf ((l.drop 16).take 4), v9, v8, true, idn, off, true, [], []⟩ (.slice none 0 0) (.slice Ad da.length cd)) rfl rfl 55 zeroC M10.out.m.g0 (by kernel_rfl) rfl (ipCells_one _ _ _ _ _ _ _) ?_))
        refine bodyPost_ret (results_cell_tmp rfl _ _ (w.heap.size + 1) 55 _ (0, 0) _ (.int .i64 0) rfl rfl (setRow_heap _ _ _ _ _ _ M10.out.m.g0) Try.underlying55 rfl (by kernel_rfl)) rfl ?_
        have hdn := M10.out.m.done (r := RES) (cs := ipCells ⟨4, addrOf ((l.drop 12).take 4), addrOf ((l.drop 16).take 4), v9, v8, true, idn, off, true, [], []⟩ (.slice none 0 0) (.slice Ad da.length cd)) (by rw [HRC.out]; exact ⟨rfl, rfl⟩) (by rw [HRC.out]; rfl)
        rw [HRC.out] at hdn ⊢
        exact hdn
    | false =>
      have HP8 : Aside0 (RES = if 65515 < off + ((tot : Int) - hd) then (zeroV, 11) else if 0 < off then (⟨4, addrOf ((l.drop 12).take 4), addrOf ((l.drop 16).take 4), v9, v8, true, idn, off, false, [], da⟩, 0) else (⟨4, addrOf ((l.drop 12).take 4), addrOf ((l.drop 16).take 4), v9, v8, false, 0, 0, false, [], da⟩, 0)) := ⟨by
          rw [HP6.out, if_neg (fun h => by cases h.1)]
          simp only [Bool.false_eq_true, false_or]⟩
      clear HP6
      by_cases z6 : 65515 < off + ((tot : Int) - hd)
      · have HRC : Aside0 (RES = (zeroV, 11)) := ⟨by rw [HP8.out, if_pos z6]⟩
        have q6 : 65515 < off + ((tot : Int) - (hd : Int)) := z6
        clear z6
        go_wp2_with (refine wpList_store_row rfl 55 (.tmp 2) (.tmp 113) rfl (w.heap.size + 1) zeroC rfl rfl 55 zeroC HG4.out (by kernel_rfl) rfl zeroC_one ?_)
        refine bodyPost_ret (results_cell_tmp rfl _ _ (w.heap.size + 1) 55 zeroC (0, 0) _ (.int .i64 11) rfl rfl (setRow_heap _ _ _ _ _ _ HG4.out) Try.underlying55 rfl (by kernel_rfl)) rfl ?_
        rw [HRC.out]
        exact fail_post (g := 0) 11 (below_setRow HB4.out (by omega) _)
      have HP9 : Aside0 (RES = if 0 < off then (⟨4, addrOf ((l.drop 12).take 4), addrOf ((l.drop 16).take 4), v9, v8, true, idn, off, false, [], da⟩, 0) else (⟨4, addrOf ((l.drop 12).take 4), addrOf ((l.drop 16).take 4), v9, v8, false, 0, 0, false, [], da⟩, 0)) := ⟨by rw [HP8.out, if_neg z6]⟩
      have q6 : off + ((tot : Int) - (hd : Int)) ≤ 65515 := by omega
      clear z6 HP8
      go_upto_region 27 with (fail)
      have w8 : IntKind.i64.wrap v8 = v8 := wraps_i64 _ (by omega) (by omega)
      have w9 : IntKind.i64.wrap v9 = v9 := wraps_i64 _ (by omega) (by omega)
      have r9 : (9 : Int) < (n : Int) := by omega
      clear x1 x2 x3 x4 x5 x6 x7 y1 y2 y3 y4 y5
      have hl4 := lt_of_heap HG4.out
      have k0 : w4.cell? ⟨w.heap.size, 0, none⟩ = some (.slice (some ad) n c) := blk_cell HX4.out 0
      have j8 := pw_cell_at HB4.out HA.out.2.1
      have j9 := pw_cell_at HB4.out HA.out.2.2
      have kd0 : w4.drew.cell? ⟨w.heap.size, 0, none⟩ = some (.slice (some ad) n c) := k0
      have kd8 : w4.drew.cell? ⟨ad.block, ad.off + 8, none⟩ = some (.int .u8 v8) := j8
      have kd9 : w4.drew.cell? ⟨ad.block, ad.off + 9, none⟩ = some (.int .u8 v9) := j9
      have ka0 : ∀ o, (w4.alloc o).drew.cell? ⟨w.heap.size, 0, none⟩ = some (.slice (some ad) n c) := fun o => pw_cell_below (below_alloc (Below.refl _ _) o) k0
      have ka8 : ∀ o, (w4.alloc o).drew.cell? ⟨ad.block, ad.off + 8, none⟩ = some (.int .u8 v8) := fun o => pw_cell_below (below_alloc (Below.refl _ _) o) j8
      have ka9 : ∀ o, (w4.alloc o).drew.cell? ⟨ad.block, ad.off + 9, none⟩ = some (.int .u8 v9) := fun o => pw_cell_below (below_alloc (Below.refl _ _) o) j9
      obtain ⟨A2, hA2⟩ : ∃ A', A' = (if c = hd then some ad else (some ad).map (·.add (hd * 1))) := ⟨_, rfl⟩
      have hcut3 : ∀ W : World, (Instr.slice 27 (.slice (some ad) n c) (some (.int .i64 (hd : Int))) (some (.int .i64 (tot : Int))) none).run Try.prog W = .ok (.slice A2 da.length (c - hd)) W := by
        obtain ⟨i0, hi0, _, hsz0, _⟩ := info_parts info5
        have h := cut_mid (P := Try.prog) 27 5 .i64 .i64 Try.underlying27 hi0 1 hsz0 (some ad) n c (hd : Int) (tot : Int) (by omega) (by omega) (by omega) hc
        rw [Int.toNat_natCast, Int.toNat_natCast] at h
        rw [hA2, HLEN.out]
        exact h
      have HCL : Aside0 (∀ W, Below w.heap.size w W → Calls Try.prog 98 #[.slice A2 da.length (c - hd)] W fun e w' => ∃ v0_ : Value, e = .returned (v0_) ∧ Kd.R (Kd.int .u8) 5 w' W.heap.size (fun _ => True) v0_ da ∧ Below W.heap.size W w') := ⟨fun W hW => by
        have h1 := C_midN (Kd.C_below HR.out.1 hW) hc hd (tot - hd) (by omega)
        rw [← hA2, show (l.drop hd).take (tot - hd) = (l.take tot).drop hd by rw [List.drop_take], ← X.out.2.2.2.2.2.2.1, ← HLEN.out] at h1
        exact Clone_at h1 (by have := HLEN.out; omega) (by have := HLEN.out; omega)⟩
      clear hA2
      have e0 : w.heap.size ≠ w4.heap.size := by omega
      have e1 : ad.block ≠ w4.heap.size := by
        have h1 := C_block HR.out.1 (by omega)
        have h2 := HB4.out.size
        omega
      go_cut [15] (fun v wc => ∃ (pb : Nat) (Ad : Option Addr) (cd : Nat), v = .pointer (some ⟨pb, 0, none⟩) ∧ Aside0 (MidX w pb (.slice Ad da.length cd) da (ipCells ⟨4, (0, 0, 0), (0, 0, 0), v9, v8, false, 0, 0, false, [], []⟩ (.slice none 0 0) (.slice Ad da.length cd)) (.slice (some ad) n c) wc))
      case first =>
        go_region_held3 (fun w' => w'.cell? ⟨w.heap.size, 0, none⟩ = some (.slice (some ad) n c) ∧ w'.cell? ⟨ad.block, ad.off + 8, none⟩ = some (.int .u8 v8) ∧ w'.cell? ⟨ad.block, ad.off + 9, none⟩ = some (.int .u8 v9)) (first | with_reducible exact ⟨t0, t8, t9⟩ | with_reducible exact ⟨kd0, kd8, kd9⟩ | with_reducible exact ⟨ka0 _, ka8 _, ka9 _⟩ | with_reducible exact ⟨keep15 e0 t0, keep15 e1 t8, keep15 e1 t9⟩ | with_reducible exact ⟨ta0 _, ta8 _, ta9 _⟩)
          ((go_at_call 98; first
            | (refine (HCL.out (w4.drew) (below_drew HB4.out)).mono ?_; rintro e5 w5 ⟨vD, rfl, hD, hb5⟩; obtain ⟨Ad, cd, hvD⟩ := Kd.R_slice hD; subst hvD; have t0 := pw_cell_at (w := w4.drew) hb5 kd0; have t8 := pw_cell_at (w := w4.drew) hb5 kd8; have t9 := pw_cell_at (w := w4.drew) hb5 kd9; have ta0 : ∀ o, (w5.alloc o).cell? ⟨w.heap.size, 0, none⟩ = some (.slice (some ad) n c) := fun o => pw_cell_below (below_alloc (Below.refl _ _) o) t0; have ta8 : ∀ o, (w5.alloc o).cell? ⟨ad.block, ad.off + 8, none⟩ = some (.int .u8 v8) := fun o => pw_cell_below (below_alloc (Below.refl _ _) o) t8; have ta9 : ∀ o, (w5.alloc o).cell? ⟨ad.block, ad.off + 9, none⟩ = some (.int .u8 v9) := fun o => pw_cell_below (below_alloc (Below.refl _ _) o) t9; have G5 := Aside0.mk (show w5.heap[w.heap.size + 1]? = some (.cells zeroC 55 (0, 0)) from (hb5.block _ (lt_of_heap HG4.out)).trans HG4.out); have X5 := Aside0.mk (show w5.heap[w.heap.size]? = some (.cells #[.slice (some ad) n c] 27 (0, 0)) from (hb5.block _ (lt_of_heap HX4.out)).trans HX4.out); have B5 := Aside0.mk (below_then (below_drew HB4.out) HB4.out.size hb5); have D5 := Aside0.mk (Kd.R_lower hD HB4.out.size); clear hD hb5)
            | (refine (HCL.out _ (below_drew (below_alloc HB4.out (.cells zeroC 55)))).mono ?_; rintro e5 w5 ⟨vD, rfl, hD, hb5⟩; obtain ⟨Ad, cd, hvD⟩ := Kd.R_slice hD; subst hvD; have t0 := pw_cell_at hb5 (ka0 _); have t8 := pw_cell_at hb5 (ka8 _); have t9 := pw_cell_at hb5 (ka9 _); have P5 := Aside0.mk (show w5.heap[w4.heap.size]? = some (.cells zeroC 55 (0, 0)) from (hb5.block _ (by show _ < (w4.alloc _).heap.size; rw [size_alloc']; omega)).trans (blk_at rfl)); have G5 := Aside0.mk (show w5.heap[w.heap.size + 1]? = some (.cells zeroC 55 (0, 0)) from (hb5.block _ (by show _ < (w4.alloc _).heap.size; rw [size_alloc']; omega)).trans (blk_alloc HG4.out _)); have X5 := Aside0.mk (show w5.heap[w.heap.size]? = some (.cells #[.slice (some ad) n c] 27 (0, 0)) from (hb5.block _ (by show _ < (w4.alloc _).heap.size; rw [size_alloc']; omega)).trans (blk_alloc HX4.out _)); have B5 := Aside0.mk (below_then (below_drew (below_alloc HB4.out (.cells zeroC 55))) (by show _ ≤ (w4.alloc _).heap.size; rw [size_alloc']; omega) hb5); have D5 := Aside0.mk (Kd.R_lower hD (show w.heap.size ≤ (w4.alloc (.cells zeroC 55)).heap.size by rw [size_alloc']; omega)); clear hD hb5; have p0 : w5.cell? ⟨w4.heap.size, 0, none⟩ = some (.int .i64 0) := blk_cell P5.out 0; have f0 := blk_unfrozen P5.out 0; have p1 : w5.cell? ⟨w4.heap.size, 1, none⟩ = some (.int .i64 0) := blk_cell P5.out 1; have f1 := blk_unfrozen P5.out 1; have p2 : w5.cell? ⟨w4.heap.size, 2, none⟩ = some (.int .u64 0) := blk_cell P5.out 2; have f2 := blk_unfrozen P5.out 2; have p3 : w5.cell? ⟨w4.heap.size, 3, none⟩ = some (.int .u64 0) := blk_cell P5.out 3; have f3 := blk_unfrozen P5.out 3; have p4 : w5.cell? ⟨w4.heap.size, 4, none⟩ = some (.int .i64 0) := blk_cell P5.out 4; have f4 := blk_unfrozen P5.out 4; have p5 : w5.cell? ⟨w4.heap.size, 5, none⟩ = some (.int .u64 0) := blk_cell P5.out 5; have f5 := blk_unfrozen P5.out 5; have p6 : w5.cell? ⟨w4.heap.size, 6, none⟩ = some (.int .u64 0) := blk_cell P5.out 6; have f6 := blk_unfrozen P5.out 6; have p7 : w5.cell? ⟨w4.heap.size, 7, none⟩ = some (.int .i64 0) := blk_cell P5.out 7; have f7 := blk_unfrozen P5.out 7; have p8 : w5.cell? ⟨w4.heap.size, 8, none⟩ = some (.int .i64 0) := blk_cell P5.out 8; have f8 := blk_unfrozen P5.out 8; have p9 : w5.cell? ⟨w4.heap.size, 9, none⟩ = some (.bool false) := blk_cell P5.out 9; have f9 := blk_unfrozen P5.out 9; have p10 : w5.cell? ⟨w4.heap.size, 10, none⟩ = some (.int .u32 0) := blk_cell P5.out 10; have f10 := blk_unfrozen P5.out 10; have p11 : w5.cell? ⟨w4.heap.size, 11, none⟩ = some (.int .i64 0) := blk_cell P5.out 11; have f11 := blk_unfrozen P5.out 11; have p12 : w5.cell? ⟨w4.heap.size, 12, none⟩ = some (.bool false) := blk_cell P5.out 12; have f12 := blk_unfrozen P5.out 12; have p13 : w5.cell? ⟨w4.heap.size, 13, none⟩ = some (.slice none 0 0) := blk_cell P5.out 13; have f13 := blk_unfrozen P5.out 13; have p14 : w5.cell? ⟨w4.heap.size, 14, none⟩ = some (.slice none 0 0) := blk_cell P5.out 14; have f14 := blk_unfrozen P5.out 14)))
        all_goals
          go_wp2
          go_meet
          case rel => first
            | exact ⟨w4.heap.size, Ad, cd, rfl, ⟨((((((((((((((((MidX.mk (MidP.mk G5.out P5.out hl4 (Nat.le_succ _) D5.out B5.out) X5.out).set 0 (.int .i64 4)).set 1 (.int .i64 0)).set 2 (.int .u64 0)).set 3 (.int .u64 0)).set 4 (.int .i64 0)).set 5 (.int .u64 0)).set 6 (.int .u64 0)).set 7 (.int .i64 v9)).set 8 (.int .i64 v8)).set 9 (.bool false)).set 10 (.int .u32 0)).set 11 (.int .i64 0)).set 12 (.bool false)).set 13 (.slice none 0 0)).set 14 (.slice Ad da.length cd))⟩⟩
            | exact ⟨w5.heap.size, Ad, cd, rfl, ⟨⟨⟨blk_alloc G5.out _, blk_at rfl, lt_of_heap G5.out, Nat.le_succ _, Kd.R_alloc D5.out _, below_alloc B5.out _⟩, blk_alloc X5.out _⟩⟩⟩
      case rest =>
        obtain ⟨pb, Ad, cd, rfl, M1⟩ := hcut
        have hF : ∀ (o : Nat), 0 < o → o + 4 ≤ 20 → ∀ W, Below w.heap.size w W → Calls Try.prog 102 #[.slice (some ⟨ad.block, ad.off + o, none⟩) 4 (c - o)] W fun e w' => e = .returned (.tuple #[.agg #[.int .i64 (fromA ((l.drop o).take 4)).1, .int .u64 (fromA ((l.drop o).take 4)).2.1, .int .u64 (fromA ((l.drop o).take 4)).2.2.1], .int .i64 (fromA ((l.drop o).take 4)).2.2.2]) ∧ Below W.heap.size W w' := fun o ho ho2 W hW => by
          have h := C_midN HR.out.1 hc o 4 (by omega)
          rw [if_neg (by omega), Option.map_some, Nat.mul_one, add_at _ _ ho] at h
          exact From_at (Kd.C_below h hW) (by omega) (fun y hy => HR.out.2.1 y (List.mem_of_mem_drop (List.mem_of_mem_take hy)))
        have hF12 := hF 12 (by omega) (by omega) wc M1.out.m.hB
        have HF16 := Aside0.mk (hF 16 (by omega) (by omega))
        clear hF kd0 kd8 kd9 ka0 ka8 ka9 k0 j8 j9 HG4 HB4 HX4 e0 e1 hl4 HCL hcut3
        have kx := M1.out.box
        go_wp2_with (fail)
        refine hF12.mono ?_
        rintro e5 w5 ⟨rfl, hb5⟩
        have M2 := Aside0.mk (M1.out.below hb5)
        have p1 : w5.cell? ⟨pb, 1, none⟩ = some (.int .i64 0) := blk_cell M2.out.m.p 1
        have p2 : w5.cell? ⟨pb, 2, none⟩ = some (.int .u64 0) := blk_cell M2.out.m.p 2
        have p3 : w5.cell? ⟨pb, 3, none⟩ = some (.int .u64 0) := blk_cell M2.out.m.p 3
        have f1 := blk_unfrozen M2.out.m.p 1
        have f2 := blk_unfrozen M2.out.m.p 2
        have f3 := blk_unfrozen M2.out.m.p 3
        have M3 := Aside0.mk (((M2.out.set 1 (.int .i64 (fromA ((l.drop 12).take 4)).1)).set 2 (.int .u64 (fromA ((l.drop 12).take 4)).2.1)).set 3 (.int .u64 (fromA ((l.drop 12).take 4)).2.2.1))
        clear hb5 hF12 M1 kx
        have kx := M3.out.box
        go_wp2_with (fail)
        refine (HF16.out _ M3.out.m.hB).mono ?_
        rintro e6 w6 ⟨rfl, hb6⟩
        have M4 := Aside0.mk (M3.out.below hb6)
        clear kx p1 p2 p3 f1 f2 f3
        have p1 : w6.cell? ⟨pb, 4, none⟩ = some (.int .i64 0) := blk_cell M4.out.m.p 4
        have p2 : w6.cell? ⟨pb, 5, none⟩ = some (.int .u64 0) := blk_cell M4.out.m.p 5
        have p3 : w6.cell? ⟨pb, 6, none⟩ = some (.int .u64 0) := blk_cell M4.out.m.p 6
        have f1 := blk_unfrozen M4.out.m.p 4
        have f2 := blk_unfrozen M4.out.m.p 5
        have f3 := blk_unfrozen M4.out.m.p 6
        clear hb6 M2 M3
        go_upto_region 30 with (fail)
        have M5 := Aside0.mk (((M4.out.set 4 (.int .i64 (fromA ((l.drop 16).take 4)).1)).set 5 (.int .u64 (fromA ((l.drop 16).take 4)).2.1)).set 6 (.int .u64 (fromA ((l.drop 16).take 4)).2.2.1))
        try go_frame
        clear p1 p2 p3 f1 f2 f3 M4
        generalize ((w6.setCell ⟨pb, 4, none⟩ (.int .i64 (fromA ((l.drop 16).take 4)).1)).setCell ⟨pb, 5, none⟩ (.int .u64 (fromA ((l.drop 16).take 4)).2.1)).setCell ⟨pb, 6, none⟩ (.int .u64 (fromA ((l.drop 16).take 4)).2.2.1) = w7 at *
        have M8 : Aside0 (MidX w pb (.slice Ad da.length cd) da (ipCells ⟨4, addrOf ((l.drop 12).take 4), addrOf ((l.drop 16).take 4), v9, v8, false, 0, 0, false, [], []⟩ (.slice none 0 0) (.slice Ad da.length cd)) (.slice (some ad) n c) w7) := M5
        clear M5
        by_cases z7 : 0 < off
        · have hu4 : IntKind.u32.wrap idn = idn := by rw [IntKind.wrap_u32]; omega
          have h112 : Calls Try.prog 112 #[.int .i64 4, .pointer (some ⟨w.heap.size, 0, none⟩)] w7 fun e w' => e = .returned (.int .i64 idn) ∧ Below w7.heap.size w7 w' := by
            have h := H112.out w7 4 M8.out.m.hB M8.out.box (by omega) (by omega)
            rw [← X.out.2.2.2.2.2.1] at h
            exact h.mono fun e w' ⟨h1, m, h2⟩ => ⟨h1, by rw [h2]; exact pw_below_drewN (Below.refl _ _) m⟩
          go_wp2_with (fail)
          refine h112.mono ?_
          rintro e10 w10 ⟨rfl, hb10⟩
          have M9 := Aside0.mk (M8.out.below hb10)
          have p9 : w10.cell? ⟨pb, 9, none⟩ = some (.bool false) := blk_cell M9.out.m.p 9
          have p10 : w10.cell? ⟨pb, 10, none⟩ = some (.int .u32 0) := blk_cell M9.out.m.p 10
          have p11 : w10.cell? ⟨pb, 11, none⟩ = some (.int .i64 0) := blk_cell M9.out.m.p 11
          have p12 : w10.cell? ⟨pb, 12, none⟩ = some (.bool false) := blk_cell M9.out.m.p 12
          have f9 := blk_unfrozen M9.out.m.p 9
          have f10 := blk_unfrozen M9.out.m.p 10
          have f11 := blk_unfrozen M9.out.m.p 11
          have f12 := blk_unfrozen M9.out.m.p 12
          clear hb10 h112 M8
          go_upto_region 32 with (fail)
          have M10 : Aside0 (MidX w pb (.slice Ad da.length cd) da (ipCells ⟨4, addrOf ((l.drop 12).take 4), addrOf ((l.drop 16).take 4), v9, v8, true, idn, off, false, [], []⟩ (.slice none 0 0) (.slice Ad da.length cd)) (.slice (some ad) n c) ((((w10.setCell ⟨pb, 9, none⟩ (.bool true)).setCell ⟨pb, 10, none⟩ (.int .u32 idn)).setCell ⟨pb, 11, none⟩ (.int .i64 off)).setCell ⟨pb, 12, none⟩ (.bool false))) :=
            ⟨((((M9.out.set 9 (.bool true)).set 10 (.int .u32 idn)).set 11 (.int .i64 off)).set 12 (.bool false))⟩
          try go_frame
          clear p9 p10 p11 p12 f9 f10 f11 f12 M9
          generalize (((w10.setCell ⟨pb, 9, none⟩ (.bool true)).setCell ⟨pb, 10, none⟩ (.int .u32 idn)).setCell ⟨pb, 11, none⟩ (.int .i64 off)).setCell ⟨pb, 12, none⟩ (.bool false) = w11 at *
          have HRC : Aside0 (RES = (⟨4, addrOf ((l.drop 12).take 4), addrOf ((l.drop 16).take 4), v9, v8, true, idn, off, false, [], da⟩, 0)) := ⟨by rw [HP9.out, if_pos z7]⟩
          go_wp2_with (first | (refine wpList_load_row rfl 55 (.tmp 15) rfl pb rfl 55 _ (0, 0) _ M10.out.m.p Try.underlying55 rfl (by kernel_rfl) ?_) | (refine wpList_store_row rfl 55 (.tmp 2) (.tmp 156) rfl (w.heap.size + 1) (ipCells ⟨4, addrOf ((l.drop 12).take 4), addrOf ((l.drop 16).take 4), v9, v8, true, idn, off, false, [], []⟩ (.slice none 0 0) (.slice Ad da.length cd)) rfl rfl 55 zeroC M10.out.m.g0 (by kernel_rfl) rfl (ipCells_one _ _ _ _ _ _ _) ?_))
          refine bodyPost_ret (results_cell_tmp rfl _ _ (w.heap.size + 1) 55 _ (0, 0) _ (.int .i64 0) rfl rfl (setRow_heap _ _ _ _ _ _ M10.out.m.g0) Try.underlying55 rfl (by kernel_rfl)) rfl ?_
          have hdn := M10.out.m.done (r := RES) (cs := ipCells ⟨4, addrOf ((l.drop 12).take 4), addrOf ((l.drop 16).take 4), v9, v8, true, idn, off, false, [], []⟩ (.slice none 0 0) (.slice Ad da.length cd)) (by rw [HRC.out]; exact ⟨rfl, rfl⟩) (by rw [HRC.out]; rfl)
          rw [HRC.out] at hdn ⊢
          exact hdn
        · have z8 : off ≤ 0 := by omega
          have HRC : Aside0 (RES = (⟨4, addrOf ((l.drop 12).take 4), addrOf ((l.drop 16).take 4), v9, v8, false, 0, 0, false, [], da⟩, 0)) := ⟨by rw [HP9.out, if_neg z7]⟩
          go_wp2_with (first | (refine wpList_load_row rfl 55 (.tmp 15) rfl pb rfl 55 _ (0, 0) _ M8.out.m.p Try.underlying55 rfl (by kernel_rfl) ?_) | (refine wpList_store_row rfl 55 (.tmp 2) (.tmp 156) rfl (w.heap.size + 1) (ipCells ⟨4, addrOf ((l.drop 12).take 4), addrOf ((l.drop 16).take 4), v9, v8, false, 0, 0, false, [], []⟩ (.slice none 0 0) (.slice Ad da.length cd)) rfl rfl 55 zeroC M8.out.m.g0 (by kernel_rfl) rfl (ipCells_one _ _ _ _ _ _ _) ?_))
          refine bodyPost_ret (results_cell_tmp rfl _ _ (w.heap.size + 1) 55 _ (0, 0) _ (.int .i64 0) rfl rfl (setRow_heap _ _ _ _ _ _ M8.out.m.g0) Try.underlying55 rfl (by kernel_rfl)) rfl ?_
          have hdn := M8.out.m.done (r := RES) (cs := ipCells ⟨4, addrOf ((l.drop 12).take 4), addrOf ((l.drop 16).take 4), v9, v8, false, 0, 0, false, [], []⟩ (.slice none 0 0) (.slice Ad da.length cd)) (by rw [HRC.out]; exact ⟨rfl, rfl⟩) (by rw [HRC.out]; rfl)
          rw [HRC.out] at hdn ⊢
          exact hdn
end Go.Proofs.Ytgifcmbknkjemaa.Own
end
