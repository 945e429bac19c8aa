/- What the law Ip6Back rests on, part 25: contracts of the functions that it calls, and plain lemmas. No condition. -/
import Derived.Test.YtgifcmbknkjemaaZIp6Back24
section
namespace Go.Proofs.Ytgifcmbknkjemaa.Own
open Go Go.RowKit Go.Proofs.YtgifcmbknkjemaaW.PrintWords Go.Proofs.YtgifcmbknkjemaaW.PrintLast Go.Proofs.YtgifcmbknkjemaaW.PrintMore
set_option linter.unusedVariables false
set_option linter.unusedSimpArgs false
theorem build6_no {p : IpV} (h : may6 p = false) : build6 p = ([], 1) := by unfold build6; rw [h]; rfl
theorem bare6_data (p : IpV) : (bare6 p).data = p.data := by unfold bare6; split <;> rfl
theorem bare6_exts_le {p : IpV} (h : may6 p = true) : (bare6 p).exts.length ≤ 1000000000 := by
  have m := may6_has h
  unfold bare6
  cases hf : p.frag
  · rw [if_neg (by simp)]
    show p.exts.length ≤ _
    rw [m.nofrag hf]
    exact Nat.zero_le _
  · rw [if_pos rfl]
    show ([44] : List Int).length ≤ _
    decide
set_option maxHeartbeats 4000000 in
set_option maxRecDepth 100000 in
theorem Ip6Back_walk (w : World) (cs : List Value) (p : IpV) (hk : kdIp.K w p cs) (hg : GoodIp p) :
    Calls Try.prog 28 #[.agg cs.toArray] w fun e w' => e = .returned (.bool true) ∧ Below w.heap.size w w' := by
  obtain ⟨Ae, Ad, ce, cd, hcs, le, ld, he, hd⟩ := kdIp_cells hk
  rw [hcs]
  have gx := hg.exts
  have gd := hg.data
  obtain ⟨ne, hne⟩ : ∃ n, n = p.exts.length := ⟨_, rfl⟩
  obtain ⟨nd, hnd⟩ : ∃ n, n = p.data.length := ⟨_, rfl⟩
  rw [← hne] at le he gx ⊢
  rw [← hnd] at ld hd gd ⊢
  have HA : Aside0 (∀ W, Below w.heap.size w W → Calls Try.prog 70 #[.agg (ipCells p (.slice Ae ne ce) (.slice Ad nd cd))] W (BuildPost W (build6 p))) := ⟨fun W hW => Build6_at (Kd.C_below he hW) (Kd.C_below hd hW) le ld hg.ok (by omega) (by omega)⟩
  have hok := hg.ok
  cases hm : may6 p with
  | false =>
    rw [build6_no hm] at HA
    clear hk hcs hg hne hnd he hd hm hok gx gd
    go_enter Try.func28, Try.ntmps28
    go_wp2_with (refine wpList_load_row rfl 55 (.tmp 1) rfl w.heap.size rfl 55 (ipCells p (.slice Ae ne ce) (.slice Ad nd cd)) (0, 0) _ (blk_at rfl) Try.underlying55 rfl (by kernel_rfl) ?_)
    refine (HA.out _ (below_alloc (Below.refl _ _) _)).mono ?_
    rintro e1 w1 ⟨v, rfl, hv, hb1⟩
    obtain ⟨A1, c1, rfl, hc1, hC1⟩ := Kd.R_form hv (show ([] : List Int).length = 0 from rfl)
    have B1 := Aside0.mk (below_then (below_alloc (Below.refl w.heap.size w) (.cells (ipCells p (.slice Ae ne ce) (.slice Ad nd cd)) 55)) (by rw [size_alloc']; omega) hb1)
    clear hv hb1 hC1
    go_wp2_with (fail)
    refine (Alive4_at _).mono ?_
    rintro e5 w5 ⟨rfl, hb5⟩
    have F5 := Aside0.mk (below_then B1.out B1.out.size hb5)
    clear hb5
    go_wp2
    go_ret
    exact ⟨rfl, F5.out⟩
  | true =>
    have hby : Bytes (build6 p).1 := bytes_build6 p hok
    have hlen : (build6 p).1.length ≤ 65535 := by
      rw [build6_is hm]
      have := (may6_has hm).len
      have := ext6_len p
      simp only [List.length_append, H40_len]
      split at this <;> omega
    have hpb0 : isExt p.proto = false → (p.frag = true → p.off = 0 → whole6 p.proto p.data = true) → parse6 (build6 p).1 = (bare6 p, 0) := fun h1 h2 => parse6_build hm hok h1 h2
    have hxl := bare6_exts_le hm
    obtain ⟨B, hB⟩ : ∃ B, build6 p = (B, 0) := ⟨_, build6_is hm⟩
    rw [hB] at HA hpb0 hby hlen
    simp only at hpb0 hby hlen
    obtain ⟨pv, f, hpv⟩ : ∃ pv f, parse6 B = (pv, f) := ⟨_, _, rfl⟩
    obtain ⟨q, hq⟩ : ∃ q, q = bare6 p := ⟨_, rfl⟩
    obtain ⟨nx, hnx⟩ : ∃ n, n = q.exts.length := ⟨_, rfl⟩
    rw [hpv, ← hq] at hpb0
    rw [← hq, ← hnx] at hxl
    have hqd : q.data = p.data := by rw [hq, bare6_data]
    have HBR : Aside0 (∀ W : World, Below w.heap.size w W → Calls Try.prog 80 #[.agg (ipCells p (.slice Ae ne ce) (.slice Ad nd cd))] W fun e w' => ∃ A c, e = .returned (.agg (ipCells q (.slice A nx c) (.slice Ad nd cd))) ∧ nx ≤ c ∧ (Kd.int .i64).C w' A nx q.exts ∧ Below W.heap.size W w') := ⟨fun W hW => by
      rw [hnx, hq]
      exact (Bare6_at W p Ae ne ce _ (Kd.C_below he hW) le ⟨_, _, _, rfl⟩).mono fun e w' ⟨A, n, c, g1, g2, g3, g4, g5⟩ => by subst g2; exact ⟨A, c, g1, g3, g4, g5⟩⟩
    have HWH : Aside0 (∀ W : World, Below w.heap.size w W → Calls Try.prog 79 #[.int .i64 p.proto, .slice Ad nd cd] W fun e w' => e = .returned (.bool (whole6 p.proto p.data)) ∧ Below W.heap.size W w') := ⟨fun W hW => rWhole_at (Kd.C_below hd hW) ld hok.2.2.2.2 (by omega)⟩
    have HSM : Aside0 (∀ (W : World) (Be Bd A : Option Addr) (de dd c : Nat), Below w.heap.size w W → nd ≤ dd → (Kd.int .i64).C W Be nx q.exts → (Kd.int .u8).C W Bd nd q.data → (Kd.int .i64).C W A nx q.exts → Calls Try.prog 57 #[.agg (ipCells q (.slice Be nx de) (.slice Bd nd dd)), .agg (ipCells q (.slice A nx c) (.slice Ad nd cd))] W fun e w' => e = .returned (.bool true) ∧ Below W.heap.size W w') := ⟨fun W Be Bd A de dd c hW hdd g1 g2 g3 => by
      have e2 : q.data.length = nd := by rw [hqd, hnd]
      have hd' : (Kd.int .u8).C W Ad nd q.data := by rw [hqd]; exact Kd.C_below hd hW
      have hy : Bytes q.data := by rw [hqd]; exact hok.2.2.2.2
      clear hk hcs hg hne hnd he hd hm hok hpb0 hby hlen hB HA HBR hq hqd HWH
      subst hnx e2
      exact SameIp_at g1 g3 g2 hd' hy hxl hdd ld⟩
    have e2 : q.data.length = nd := by rw [hqd, hnd]
    obtain ⟨n, hn⟩ : ∃ n, B.length = n := ⟨_, rfl⟩
    rw [hn] at hlen
    have HS := Aside0.mk (And.intro hpv (And.intro hby (And.intro hn (And.intro hnx.symm e2))))
    have HPB := Aside0.mk hpb0
    clear hk hcs hg hne hnd he hd hm hok hpb0 hby hB hn hq hqd e2 hxl hpv hnx
    go_enter Try.func28, Try.ntmps28
    go_wp2_with (refine wpList_load_row rfl 55 (.tmp 1) rfl w.heap.size rfl 55 (ipCells p (.slice Ae ne ce) (.slice Ad nd cd)) (0, 0) _ (blk_at rfl) Try.underlying55 rfl (by kernel_rfl) ?_)
    refine (HA.out _ (below_alloc (Below.refl _ _) _)).mono ?_
    rintro e1 w1 ⟨v, rfl, hv, hb1⟩
    obtain ⟨A1, c1, rfl, hc1, hC1⟩ := Kd.R_form hv HS.out.2.2.1
    have HX1 := Aside0.mk ((hb1.block _ (by rw [size_alloc']; omega)).trans (blk_at (W := w) (o := .cells (ipCells p (.slice Ae ne ce) (.slice Ad nd cd)) 55) rfl))
    have B1 := Aside0.mk (below_then (below_alloc (Below.refl w.heap.size w) (.cells (ipCells p (.slice Ae ne ce) (.slice Ad nd cd)) 55)) (by rw [size_alloc']; omega) hb1)
    have C1 := Aside0.mk hC1
    have L1 : Aside0 (w.heap.size < w1.heap.size) := ⟨by have := hb1.size; rw [size_alloc'] at this; omega⟩
    clear hv hb1 hC1 HA
    have hparse := Parse_at C1.out hc1 HS.out.2.1 (by omega)
    rw [HS.out.1] at hparse
    have HP := Aside0.mk hparse
    clear hparse
    go_wp2_with (fail)
    refine HP.out.mono ?_
    rintro e2 w2 ⟨vE, vD, rfl, hE, hD, hb2⟩
    obtain ⟨Be, de, rfl, hde, hCE⟩ := Kd.R_form hE (show pv.exts.length = pv.exts.length from rfl)
    obtain ⟨Bd, dd, rfl, hdd, hCD⟩ := Kd.R_form hD (show pv.data.length = pv.data.length from rfl)
    have B2 := Aside0.mk (below_then B1.out B1.out.size hb2)
    have HX2 := Aside0.mk ((hb2.block _ L1.out).trans HX1.out)
    have HE := Aside0.mk (And.intro hCE (And.intro hCD hdd))
    clear hE hD hb2 hCE hCD hdd HP HX1 L1 C1
    go_upto_region 5 with (refine wpList_store_new rfl 55 (.tmp 5) (.tmp 23) rfl _ (ipCells pv (.slice Be pv.exts.length de) (.slice Bd pv.data.length dd)) rfl rfl (by kernel_rfl) rfl (ipCells_one _ _ _ _ _ _ _) ?_)
    obtain ⟨W0, hW0⟩ : ∃ W0, W0 = w2.alloc (.cells (ipCells pv (.slice Be pv.exts.length de) (.slice Bd pv.data.length dd)) 55) := ⟨_, rfl⟩
    have HQ0 : Aside0 (W0.heap[w2.heap.size]? = some (.cells (ipCells pv (.slice Be pv.exts.length de) (.slice Bd pv.data.length dd)) 55 (0, 0))) := ⟨by rw [hW0]; exact blk_at rfl⟩
    have HX0 : Aside0 (W0.heap[w.heap.size]? = some (.cells (ipCells p (.slice Ae ne ce) (.slice Ad nd cd)) 55 (0, 0))) := ⟨by rw [hW0]; exact blk_alloc HX2.out _⟩
    have B0 : Aside0 (Below w.heap.size w W0) := ⟨by rw [hW0]; exact below_alloc B2.out _⟩
    have HE0 : Aside0 ((Kd.int .i64).C W0 Be pv.exts.length pv.exts ∧ (Kd.int .u8).C W0 Bd pv.data.length pv.data ∧ pv.data.length ≤ dd) := ⟨by rw [hW0]; exact ⟨Kd.C_alloc HE.out.1 _, Kd.C_alloc HE.out.2.1 _, HE.out.2.2⟩⟩
    rw [← hW0]
    clear hW0 HX2 B2 HE B1
    obtain ⟨G, hG⟩ : ∃ G : Bool, G = (isExt p.proto || (p.frag && decide (p.off = 0) && !(whole6 p.proto p.data))) := ⟨_, rfl⟩
    go_cut [44] (fun v wc => v = .bool G ∧ Aside0 (Below W0.heap.size W0 wc))
    case first =>
      have kp7 : W0.cell? ⟨w.heap.size, 7, none⟩ = some (.int .i64 p.proto) := blk_cell HX0.out 7
      have kp9 : W0.cell? ⟨w.heap.size, 9, none⟩ = some (.bool p.frag) := blk_cell HX0.out 9
      have kp11 : W0.cell? ⟨w.heap.size, 11, none⟩ = some (.int .i64 p.off) := blk_cell HX0.out 11
      have kp14 : W0.cell? ⟨w.heap.size, 14, none⟩ = some (.slice Ad nd cd) := blk_cell HX0.out 14
      have HW0 := Aside0.mk (HWH.out W0 B0.out)
      go_wp2_with (fail)
      refine (IsExt_at _ _).mono ?_
      rintro e4 w4 ⟨rfl, rfl⟩
      cases hX : isExt p.proto
      · cases hF : p.frag
        · rw [hF] at kp9
          rw [hX, hF] at hG
          subst hG
          go_wp2
          go_meet
          case rel => exact ⟨rfl, ⟨Below.refl _ _⟩⟩
        · rw [hF] at kp9
          by_cases ho : p.off = 0
          · rw [ho] at kp11
            rw [hX, hF, ho] at hG
            go_wp2_with (fail)
            refine HW0.out.mono ?_
            rintro e5 w5 ⟨rfl, hb5⟩
            go_wp2
            go_meet
            case rel => exact ⟨by rw [hG]; simp, ⟨hb5⟩⟩
          · have ho' : (p.off == 0) = false := by simpa using ho
            rw [hX, hF, decide_eq_false ho] at hG
            subst hG
            go_wp2
            go_meet
            case rel => exact ⟨rfl, ⟨Below.refl _ _⟩⟩
      · rw [hX] at hG
        subst hG
        go_wp2
        go_meet
        case rel => exact ⟨rfl, ⟨Below.refl _ _⟩⟩
    case rest =>
      obtain ⟨rfl, hbw⟩ := hcut
      have BB := Aside0.mk (below_then B0.out B0.out.size hbw.out)
      cases hGG : G
      · subst hGG
        have hgo : isExt p.proto = false ∧ (p.frag = true → p.off = 0 → whole6 p.proto p.data = true) := by
          have h := hG.symm
          rw [Bool.or_eq_false_iff] at h
          refine ⟨h.1, fun h1 h2 => ?_⟩
          have h3 := h.2
          rw [h1, h2] at h3
          simpa using h3
        have hpp := HPB.out hgo.1 hgo.2
        rw [Prod.mk.injEq] at hpp
        obtain ⟨rfl, rfl⟩ := hpp
        have hx1 := HS.out.2.2.2.1
        have hx2 := HS.out.2.2.2.2
        rw [hx1, hx2] at HQ0 HE0
        rw [hx1] at hde
        have HQQ : Aside0 (wc.heap[w2.heap.size]? = some (.cells (ipCells pv (.slice Be nx de) (.slice Bd nd dd)) 55 (0, 0))) := ⟨(hbw.out.block _ (Array.getElem?_eq_some_iff.1 HQ0.out).1).trans HQ0.out⟩
        have HXX : Aside0 (wc.heap[w.heap.size]? = some (.cells (ipCells p (.slice Ae ne ce) (.slice Ad nd cd)) 55 (0, 0))) := ⟨(hbw.out.block _ (Array.getElem?_eq_some_iff.1 HX0.out).1).trans HX0.out⟩
        have BA := Aside0.mk (show Below w.heap.size w wc.drew from below_drew BB.out)
        have HEE : Aside0 ((Kd.int .i64).C wc Be nx pv.exts ∧ (Kd.int .u8).C wc Bd nd pv.data) := ⟨Kd.C_below HE0.out.1 hbw.out, Kd.C_below HE0.out.2.1 hbw.out⟩
        have HSS : Aside0 (∀ W (A : Option Addr) (c : Nat), Below wc.drew.heap.size wc.drew W → (Kd.int .i64).C W A nx pv.exts → Calls Try.prog 57 #[.agg (ipCells pv (.slice Be nx de) (.slice Bd nd dd)), .agg (ipCells pv (.slice A nx c) (.slice Ad nd cd))] W fun e w' => e = .returned (.bool true) ∧ Below W.heap.size W w') := ⟨fun W A c hW hC => HSM.out W Be Bd A de dd c (below_then BA.out BA.out.size hW) HE0.out.2.2 (Kd.C_below (Kd.C_drew HEE.out.1) hW) (Kd.C_below (Kd.C_drew HEE.out.2) hW) hC⟩
        have HBS : Aside0 (∀ W : World, Below wc.drew.heap.size wc.drew W → Calls Try.prog 80 #[.agg (ipCells p (.slice Ae ne ce) (.slice Ad nd cd))] W fun e w' => ∃ A c, e = .returned (.agg (ipCells pv (.slice A nx c) (.slice Ad nd cd))) ∧ nx ≤ c ∧ (Kd.int .i64).C w' A nx pv.exts ∧ Below W.heap.size W w') := ⟨fun W hW => HBR.out W (below_then BA.out BA.out.size hW)⟩
        clear HSM HE0 HEE HBR HWH hG hgo hx1 hx2 HPB HS B0 HQ0 HX0 hbw
        go_upto_region 7 with (fail)
        go_cut [2] (fun v wd => v = .bool true ∧ Aside0 (Below w.heap.size w wd))
        case first =>
          have kp0 : wc.drew.cell? ⟨w.heap.size, 0, none⟩ = some (.int .i64 p.fam) := blk_cell (blk_drew HXX.out) 0
          have kp1 : wc.drew.cell? ⟨w.heap.size, 1, none⟩ = some (.int .i64 p.src.1) := blk_cell (blk_drew HXX.out) 1
          have kp2 : wc.drew.cell? ⟨w.heap.size, 2, none⟩ = some (.int .u64 p.src.2.1) := blk_cell (blk_drew HXX.out) 2
          have kp3 : wc.drew.cell? ⟨w.heap.size, 3, none⟩ = some (.int .u64 p.src.2.2) := blk_cell (blk_drew HXX.out) 3
          have kp4 : wc.drew.cell? ⟨w.heap.size, 4, none⟩ = some (.int .i64 p.dst.1) := blk_cell (blk_drew HXX.out) 4
          have kp5 : wc.drew.cell? ⟨w.heap.size, 5, none⟩ = some (.int .u64 p.dst.2.1) := blk_cell (blk_drew HXX.out) 5
          have kp6 : wc.drew.cell? ⟨w.heap.size, 6, none⟩ = some (.int .u64 p.dst.2.2) := blk_cell (blk_drew HXX.out) 6
          have kp7 : wc.drew.cell? ⟨w.heap.size, 7, none⟩ = some (.int .i64 p.proto) := blk_cell (blk_drew HXX.out) 7
          have kp8 : wc.drew.cell? ⟨w.heap.size, 8, none⟩ = some (.int .i64 p.hop) := blk_cell (blk_drew HXX.out) 8
          have kp9 : wc.drew.cell? ⟨w.heap.size, 9, none⟩ = some (.bool p.frag) := blk_cell (blk_drew HXX.out) 9
          have kp10 : wc.drew.cell? ⟨w.heap.size, 10, none⟩ = some (.int .u32 p.id) := blk_cell (blk_drew HXX.out) 10
          have kp11 : wc.drew.cell? ⟨w.heap.size, 11, none⟩ = some (.int .i64 p.off) := blk_cell (blk_drew HXX.out) 11
          have kp12 : wc.drew.cell? ⟨w.heap.size, 12, none⟩ = some (.bool p.more) := blk_cell (blk_drew HXX.out) 12
          have kp13 : wc.drew.cell? ⟨w.heap.size, 13, none⟩ = some (.slice Ae ne ce) := blk_cell (blk_drew HXX.out) 13
          have kp14 : wc.drew.cell? ⟨w.heap.size, 14, none⟩ = some (.slice Ad nd cd) := blk_cell (blk_drew HXX.out) 14
          have kq0 : wc.drew.cell? ⟨w2.heap.size, 0, none⟩ = some (.int .i64 pv.fam) := blk_cell (blk_drew HQQ.out) 0
          have kq1 : wc.drew.cell? ⟨w2.heap.size, 1, none⟩ = some (.int .i64 pv.src.1) := blk_cell (blk_drew HQQ.out) 1
          have kq2 : wc.drew.cell? ⟨w2.heap.size, 2, none⟩ = some (.int .u64 pv.src.2.1) := blk_cell (blk_drew HQQ.out) 2
          have kq3 : wc.drew.cell? ⟨w2.heap.size, 3, none⟩ = some (.int .u64 pv.src.2.2) := blk_cell (blk_drew HQQ.out) 3
          have kq4 : wc.drew.cell? ⟨w2.heap.size, 4, none⟩ = some (.int .i64 pv.dst.1) := blk_cell (blk_drew HQQ.out) 4
          have kq5 : wc.drew.cell? ⟨w2.heap.size, 5, none⟩ = some (.int .u64 pv.dst.2.1) := blk_cell (blk_drew HQQ.out) 5
          have kq6 : wc.drew.cell? ⟨w2.heap.size, 6, none⟩ = some (.int .u64 pv.dst.2.2) := blk_cell (blk_drew HQQ.out) 6
          have kq7 : wc.drew.cell? ⟨w2.heap.size, 7, none⟩ = some (.int .i64 pv.proto) := blk_cell (blk_drew HQQ.out) 7
          have kq8 : wc.drew.cell? ⟨w2.heap.size, 8, none⟩ = some (.int .i64 pv.hop) := blk_cell (blk_drew HQQ.out) 8
          have kq9 : wc.drew.cell? ⟨w2.heap.size, 9, none⟩ = some (.bool pv.frag) := blk_cell (blk_drew HQQ.out) 9
          have kq10 : wc.drew.cell? ⟨w2.heap.size, 10, none⟩ = some (.int .u32 pv.id) := blk_cell (blk_drew HQQ.out) 10
          have kq11 : wc.drew.cell? ⟨w2.heap.size, 11, none⟩ = some (.int .i64 pv.off) := blk_cell (blk_drew HQQ.out) 11
          have kq12 : wc.drew.cell? ⟨w2.heap.size, 12, none⟩ = some (.bool pv.more) := blk_cell (blk_drew HQQ.out) 12
          have kq13 : wc.drew.cell? ⟨w2.heap.size, 13, none⟩ = some (.slice Be nx de) := blk_cell (blk_drew HQQ.out) 13
          have kq14 : wc.drew.cell? ⟨w2.heap.size, 14, none⟩ = some (.slice Bd nd dd) := blk_cell (blk_drew HQQ.out) 14
          clear HQQ HXX
          go_region_held3 (fun w' => w'.cell? ⟨w.heap.size, 0, none⟩ = some (.int .i64 p.fam) ∧ w'.cell? ⟨w.heap.size, 1, none⟩ = some (.int .i64 p.src.1) ∧ w'.cell? ⟨w.heap.size, 2, none⟩ = some (.int .u64 p.src.2.1) ∧ w'.cell? ⟨w.heap.size, 3, none⟩ = some (.int .u64 p.src.2.2) ∧ w'.cell? ⟨w.heap.size, 4, none⟩ = some (.int .i64 p.dst.1) ∧ w'.cell? ⟨w.heap.size, 5, none⟩ = some (.int .u64 p.dst.2.1) ∧ w'.cell? ⟨w.heap.size, 6, none⟩ = some (.int .u64 p.dst.2.2) ∧ w'.cell? ⟨w.heap.size, 7, none⟩ = some (.int .i64 p.proto) ∧ w'.cell? ⟨w.heap.size, 8, none⟩ = some (.int .i64 p.hop) ∧ w'.cell? ⟨w.heap.size, 9, none⟩ = some (.bool p.frag) ∧ w'.cell? ⟨w.heap.size, 10, none⟩ = some (.int .u32 p.id) ∧ w'.cell? ⟨w.heap.size, 11, none⟩ = some (.int .i64 p.off) ∧ w'.cell? ⟨w.heap.size, 12, none⟩ = some (.bool p.more) ∧ w'.cell? ⟨w.heap.size, 13, none⟩ = some (.slice Ae ne ce) ∧ w'.cell? ⟨w.heap.size, 14, none⟩ = some (.slice Ad nd cd) ∧ w'.cell? ⟨w2.heap.size, 0, none⟩ = some (.int .i64 pv.fam) ∧ w'.cell? ⟨w2.heap.size, 1, none⟩ = some (.int .i64 pv.src.1) ∧ w'.cell? ⟨w2.heap.size, 2, none⟩ = some (.int .u64 pv.src.2.1) ∧ w'.cell? ⟨w2.heap.size, 3, none⟩ = some (.int .u64 pv.src.2.2) ∧ w'.cell? ⟨w2.heap.size, 4, none⟩ = some (.int .i64 pv.dst.1) ∧ w'.cell? ⟨w2.heap.size, 5, none⟩ = some (.int .u64 pv.dst.2.1) ∧ w'.cell? ⟨w2.heap.size, 6, none⟩ = some (.int .u64 pv.dst.2.2) ∧ w'.cell? ⟨w2.heap.size, 7, none⟩ = some (.int .i64 pv.proto) ∧ w'.cell? ⟨w2.heap.size, 8, none⟩ = some (.int .i64 pv.hop) ∧ w'.cell? ⟨w2.heap.size, 9, none⟩ = some (.bool pv.frag) ∧ w'.cell? ⟨w2.heap.size, 10, none⟩ = some (.int .u32 pv.id) ∧ w'.cell? ⟨w2.heap.size, 11, none⟩ = some (.int .i64 pv.off) ∧ w'.cell? ⟨w2.heap.size, 12, none⟩ = some (.bool pv.more) ∧ w'.cell? ⟨w2.heap.size, 13, none⟩ = some (.slice Be nx de) ∧ w'.cell? ⟨w2.heap.size, 14, none⟩ = some (.slice Bd nd dd)) (first | with_reducible exact ⟨kp0, kp1, kp2, kp3, kp4, kp5, kp6, kp7, kp8, kp9, kp10, kp11, kp12, kp13, kp14, kq0, kq1, kq2, kq3, kq4, kq5, kq6, kq7, kq8, kq9, kq10, kq11, kq12, kq13, kq14⟩ | with_reducible exact ⟨up0, up1, up2, up3, up4, up5, up6, up7, up8, up9, up10, up11, up12, up13, up14, uq0, uq1, uq2, uq3, uq4, uq5, uq6, uq7, uq8, uq9, uq10, uq11, uq12, uq13, uq14⟩ | with_reducible exact ⟨tp0, tp1, tp2, tp3, tp4, tp5, tp6, tp7, tp8, tp9, tp10, tp11, tp12, tp13, tp14, tq0, tq1, tq2, tq3, tq4, tq5, tq6, tq7, tq8, tq9, tq10, tq11, tq12, tq13, tq14⟩ | with_reducible exact ⟨rp0, rp1, rp2, rp3, rp4, rp5, rp6, rp7, rp8, rp9, rp10, rp11, rp12, rp13, rp14, rq0, rq1, rq2, rq3, rq4, rq5, rq6, rq7, rq8, rq9, rq10, rq11, rq12, rq13, rq14⟩)
            ((first
              | (go_at_call 80; refine (HBS.out _ (Below.refl _ _)).mono ?_; rintro e7 w7 ⟨Ax, cx, rfl, hcx, hCX, hb7⟩; have F7 := Aside0.mk (And.intro hb7 hCX); have rp0 := pw_cell_at hb7 kp0; have rp1 := pw_cell_at hb7 kp1; have rp2 := pw_cell_at hb7 kp2; have rp3 := pw_cell_at hb7 kp3; have rp4 := pw_cell_at hb7 kp4; have rp5 := pw_cell_at hb7 kp5; have rp6 := pw_cell_at hb7 kp6; have rp7 := pw_cell_at hb7 kp7; have rp8 := pw_cell_at hb7 kp8; have rp9 := pw_cell_at hb7 kp9; have rp10 := pw_cell_at hb7 kp10; have rp11 := pw_cell_at hb7 kp11; have rp12 := pw_cell_at hb7 kp12; have rp13 := pw_cell_at hb7 kp13; have rp14 := pw_cell_at hb7 kp14; have rq0 := pw_cell_at hb7 kq0; have rq1 := pw_cell_at hb7 kq1; have rq2 := pw_cell_at hb7 kq2; have rq3 := pw_cell_at hb7 kq3; have rq4 := pw_cell_at hb7 kq4; have rq5 := pw_cell_at hb7 kq5; have rq6 := pw_cell_at hb7 kq6; have rq7 := pw_cell_at hb7 kq7; have rq8 := pw_cell_at hb7 kq8; have rq9 := pw_cell_at hb7 kq9; have rq10 := pw_cell_at hb7 kq10; have rq11 := pw_cell_at hb7 kq11; have rq12 := pw_cell_at hb7 kq12; have rq13 := pw_cell_at hb7 kq13; have rq14 := pw_cell_at hb7 kq14; clear hb7 hCX)
              | (go_at_call 57; refine (HSS.out w7 Ax cx F7.out.1 F7.out.2).mono ?_; rintro e8 w8 ⟨rfl, hb8⟩; have F8 := Aside0.mk hb8; have tp0 := pw_cell_at hb8 rp0; have tp1 := pw_cell_at hb8 rp1; have tp2 := pw_cell_at hb8 rp2; have tp3 := pw_cell_at hb8 rp3; have tp4 := pw_cell_at hb8 rp4; have tp5 := pw_cell_at hb8 rp5; have tp6 := pw_cell_at hb8 rp6; have tp7 := pw_cell_at hb8 rp7; have tp8 := pw_cell_at hb8 rp8; have tp9 := pw_cell_at hb8 rp9; have tp10 := pw_cell_at hb8 rp10; have tp11 := pw_cell_at hb8 rp11; have tp12 := pw_cell_at hb8 rp12; have tp13 := pw_cell_at hb8 rp13; have tp14 := pw_cell_at hb8 rp14; have tq0 := pw_cell_at hb8 rq0; have tq1 := pw_cell_at hb8 rq1; have tq2 := pw_cell_at hb8 rq2; have tq3 := pw_cell_at hb8 rq3; have tq4 := pw_cell_at hb8 rq4; have tq5 := pw_cell_at hb8 rq5; have tq6 := pw_cell_at hb8 rq6; have tq7 := pw_cell_at hb8 rq7; have tq8 := pw_cell_at hb8 rq8; have tq9 := pw_cell_at hb8 rq9; have tq10 := pw_cell_at hb8 rq10; have tq11 := pw_cell_at hb8 rq11; have tq12 := pw_cell_at hb8 rq12; have tq13 := pw_cell_at hb8 rq13; have tq14 := pw_cell_at hb8 rq14; clear hb8)
              | (go_at_call 54; refine (Alive4_at _).mono ?_; rintro e9 w9 ⟨rfl, hb9⟩; have F9 := Aside0.mk hb9; have up0 := pw_cell_at hb9 tp0; have up1 := pw_cell_at hb9 tp1; have up2 := pw_cell_at hb9 tp2; have up3 := pw_cell_at hb9 tp3; have up4 := pw_cell_at hb9 tp4; have up5 := pw_cell_at hb9 tp5; have up6 := pw_cell_at hb9 tp6; have up7 := pw_cell_at hb9 tp7; have up8 := pw_cell_at hb9 tp8; have up9 := pw_cell_at hb9 tp9; have up10 := pw_cell_at hb9 tp10; have up11 := pw_cell_at hb9 tp11; have up12 := pw_cell_at hb9 tp12; have up13 := pw_cell_at hb9 tp13; have up14 := pw_cell_at hb9 tp14; have uq0 := pw_cell_at hb9 tq0; have uq1 := pw_cell_at hb9 tq1; have uq2 := pw_cell_at hb9 tq2; have uq3 := pw_cell_at hb9 tq3; have uq4 := pw_cell_at hb9 tq4; have uq5 := pw_cell_at hb9 tq5; have uq6 := pw_cell_at hb9 tq6; have uq7 := pw_cell_at hb9 tq7; have uq8 := pw_cell_at hb9 tq8; have uq9 := pw_cell_at hb9 tq9; have uq10 := pw_cell_at hb9 tq10; have uq11 := pw_cell_at hb9 tq11; have uq12 := pw_cell_at hb9 tq12; have uq13 := pw_cell_at hb9 tq13; have uq14 := pw_cell_at hb9 tq14; clear hb9)))
          go_wp2
          go_meet
          case rel => exact ⟨rfl, ⟨below_then (below_then (below_then BA.out BA.out.size F7.out.1) (Nat.le_trans BA.out.size F7.out.1.size) F8.out) (Nat.le_trans BA.out.size (Nat.le_trans F7.out.1.size F8.out.size)) F9.out⟩⟩
        case rest =>
          obtain ⟨rfl, hbw⟩ := hcut
          go_wp2
          go_ret
          exact ⟨rfl, hbw.out⟩
      · clear hG HSM HE0 HBR HWH HPB HS B0 HQ0 HX0 hbw
        go_wp2_with (fail)
        refine (Alive4_at _).mono ?_
        rintro e5 w5 ⟨rfl, hb5⟩
        have F5 := Aside0.mk (below_then BB.out BB.out.size hb5)
        clear hb5
        go_wp2
        go_ret
        exact ⟨rfl, F5.out⟩
end Go.Proofs.Ytgifcmbknkjemaa.Own
end
