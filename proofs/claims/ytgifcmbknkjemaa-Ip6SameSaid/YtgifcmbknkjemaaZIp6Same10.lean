/- What the law Ip6Same rests on, part 10: contracts of the functions that it calls, and plain lemmas. No condition. -/
import Derived.Test.YtgifcmbknkjemaaZIp6Same9
section
namespace Go.Proofs.Ytgifcmbknkjemaa.I6Same
open Go.RowKit Go.Proofs.YtgifcmbknkjemaaW.PrintWords Go.Proofs.YtgifcmbknkjemaaW.PrintLast Go.Proofs.YtgifcmbknkjemaaW.PrintMore Go.Proofs.Ytgifcmbknkjemaa.Own
attribute [local go_sem] max2_int min2_int max_two min_two max_three min_three max_four min_four   -- for this text's walks alone
set_option linter.unusedVariables false
set_option linter.unusedSimpArgs false
mutual
def stockadelaw04_Ip6Same.j0 : Nat → List Int → Int → Bool → Int → Int → Int → Int → Int → Int → Int → Int → Int → Bool → Int → Int → Bool → List Int → List Int → Option (Bool)
  | 0, _, _, _, _, _, _, _, _, _, _, _, _, _, _, _, _, _, _ => none
  | k + 1, x0, x4, x28, x122000, x122001, x122002, x122003, x122004, x122005, x122006, x122007, x122008, x122009, x122010, x122011, x122012, x122013, x122014 => if x28 = true then ((stockadelaw04_alive.f).bind fun t122 => (if t122 = true then (if x4 = 0 then (some (decide ((x0.length : Int) ≥ 40))) else (some true)) else (some false))) else (stockadelaw04_Ip6Same.l0 k x0 x122013 (x122013.length : Int) 0 x122000 x122001 x122002 x122003 x122004 x122005 x122006 x122007 x122008 x122009 x122010 x122011 x122012 x122013 x122014)
def stockadelaw04_Ip6Same.l0 : Nat → List Int → List Int → Int → Int → Int → Int → Int → Int → Int → Int → Int → Int → Int → Bool → Int → Int → Bool → List Int → List Int → Option (Bool)
  | 0, _, _, _, _, _, _, _, _, _, _, _, _, _, _, _, _, _, _, _ => none
  | k + 1, x0, x40, x41, x42, x122000, x122001, x122002, x122003, x122004, x122005, x122006, x122007, x122008, x122009, x122010, x122011, x122012, x122013, x122014 => if x42 < x41 then (if 0 ≤ x42 then (if x42 < (x40.length : Int) then (if (rd x40 x42) = 0 then ((stockadelaw04_alive.f).bind fun t124 => (some t124)) else (if (rd x40 x42) = 44 then ((stockadelaw04_alive.f).bind fun t125 => (some t125)) else (stockadelaw04_Ip6Same.l0 k x0 x40 x41 (wrap64 (x42 + 1)) x122000 x122001 x122002 x122003 x122004 x122005 x122006 x122007 x122008 x122009 x122010 x122011 x122012 x122013 x122014))) else (none)) else (none)) else ((stockaderef01_U16.f x0 4).bind fun bt126 => (if bt126.1 > (wrap64 ((x0.length : Int) - 40)) then (some false) else (if 6 < (x0.length : Int) then (if 40 ≤ (wrap64 (40 + bt126.1)) then (if (wrap64 (40 + bt126.1)) ≤ (x0.length : Int) then ((ip6_Walk.f (wrap64 (rd x0 6)) ((x0.take ((wrap64 (40 + bt126.1)) : Int).toNat).drop 40)).bind fun bt130 => (if bt130.2.2.2 = 0 then (if bt130.1 = x122007 then ((stockadelaw04_sameInts.f bt130.2.1 x122013).bind fun t138 => (if t138 = true then ((stockaderef01_Same.f bt130.2.2.1 x122014).bind fun t139 => (if t139 = true then ((stockadelaw04_alive.f).bind fun t140 => (some t140)) else (some false))) else (some false))) else (some false)) else (some false))) else (none)) else (none)) else (none))))
end
def stockadelaw04_Ip6Same.f (k : Nat) (l0 : List Int) : Option (Bool) := (ip6_Parse.f l0).bind fun bt101 => (if bt101.2.2.2.2.2.2.2.2.2.2.2.2.2.2.2 = 0 then (if bt101.2.2.2.2.2.2.2.2.2.1 = true then (stockadelaw04_Ip6Same.j0 k l0 bt101.2.2.2.2.2.2.2.2.2.2.2.2.2.2.2 true bt101.1 bt101.2.1 bt101.2.2.1 bt101.2.2.2.1 bt101.2.2.2.2.1 bt101.2.2.2.2.2.1 bt101.2.2.2.2.2.2.1 bt101.2.2.2.2.2.2.2.1 bt101.2.2.2.2.2.2.2.2.1 bt101.2.2.2.2.2.2.2.2.2.1 bt101.2.2.2.2.2.2.2.2.2.2.1 bt101.2.2.2.2.2.2.2.2.2.2.2.1 bt101.2.2.2.2.2.2.2.2.2.2.2.2.1 bt101.2.2.2.2.2.2.2.2.2.2.2.2.2.1 bt101.2.2.2.2.2.2.2.2.2.2.2.2.2.2.1) else (stockadelaw04_Ip6Same.j0 k l0 bt101.2.2.2.2.2.2.2.2.2.2.2.2.2.2.2 (decide ((l0.length : Int) < 40)) bt101.1 bt101.2.1 bt101.2.2.1 bt101.2.2.2.1 bt101.2.2.2.2.1 bt101.2.2.2.2.2.1 bt101.2.2.2.2.2.2.1 bt101.2.2.2.2.2.2.2.1 bt101.2.2.2.2.2.2.2.2.1 bt101.2.2.2.2.2.2.2.2.2.1 bt101.2.2.2.2.2.2.2.2.2.2.1 bt101.2.2.2.2.2.2.2.2.2.2.2.1 bt101.2.2.2.2.2.2.2.2.2.2.2.2.1 bt101.2.2.2.2.2.2.2.2.2.2.2.2.2.1 bt101.2.2.2.2.2.2.2.2.2.2.2.2.2.2.1)) else (stockadelaw04_Ip6Same.j0 k l0 bt101.2.2.2.2.2.2.2.2.2.2.2.2.2.2.2 true bt101.1 bt101.2.1 bt101.2.2.1 bt101.2.2.2.1 bt101.2.2.2.2.1 bt101.2.2.2.2.2.1 bt101.2.2.2.2.2.2.1 bt101.2.2.2.2.2.2.2.1 bt101.2.2.2.2.2.2.2.2.1 bt101.2.2.2.2.2.2.2.2.2.1 bt101.2.2.2.2.2.2.2.2.2.2.1 bt101.2.2.2.2.2.2.2.2.2.2.2.1 bt101.2.2.2.2.2.2.2.2.2.2.2.2.1 bt101.2.2.2.2.2.2.2.2.2.2.2.2.2.1 bt101.2.2.2.2.2.2.2.2.2.2.2.2.2.2.1))
theorem stockadelaw04_Ip6Same.mono_l : ∀ k, (∀ y0 y1 y2 y3 y4 y5 y6 y7 y8 y9 y10 y11 y12 y13 y14 y15 y16 y17, LeO (stockadelaw04_Ip6Same.j0 k y0 y1 y2 y3 y4 y5 y6 y7 y8 y9 y10 y11 y12 y13 y14 y15 y16 y17) (stockadelaw04_Ip6Same.j0 (k + 1) y0 y1 y2 y3 y4 y5 y6 y7 y8 y9 y10 y11 y12 y13 y14 y15 y16 y17)) ∧ (∀ y0 y1 y2 y3 y4 y5 y6 y7 y8 y9 y10 y11 y12 y13 y14 y15 y16 y17 y18, LeO (stockadelaw04_Ip6Same.l0 k y0 y1 y2 y3 y4 y5 y6 y7 y8 y9 y10 y11 y12 y13 y14 y15 y16 y17 y18) (stockadelaw04_Ip6Same.l0 (k + 1) y0 y1 y2 y3 y4 y5 y6 y7 y8 y9 y10 y11 y12 y13 y14 y15 y16 y17 y18))
  | 0 => ⟨fun _ _ _ _ _ _ _ _ _ _ _ _ _ _ _ _ _ _ r h => by simp [stockadelaw04_Ip6Same.j0] at h, fun _ _ _ _ _ _ _ _ _ _ _ _ _ _ _ _ _ _ _ r h => by simp [stockadelaw04_Ip6Same.l0] at h⟩
  | k + 1 => by
    obtain ⟨ih0, ih1⟩ := stockadelaw04_Ip6Same.mono_l k
    refine ⟨?_, ?_⟩
    · intro y0 y1 y2 y3 y4 y5 y6 y7 y8 y9 y10 y11 y12 y13 y14 y15 y16 y17
      unfold stockadelaw04_Ip6Same.j0
      repeat' first
      | (with_reducible exact ih0 _ _ _ _ _ _ _ _ _ _ _ _ _ _ _ _ _ _)
      | (with_reducible exact ih1 _ _ _ _ _ _ _ _ _ _ _ _ _ _ _ _ _ _ _)
      | (with_reducible exact LeO.refl _)
      | (with_reducible exact LeO.none _)
      | (with_reducible refine LeO.ite ?_ ?_)
      | (with_reducible refine LeO.bind ?_ (fun _ => ?_))
      | exact ih0 _ _ _ _ _ _ _ _ _ _ _ _ _ _ _ _ _ _
      | exact ih1 _ _ _ _ _ _ _ _ _ _ _ _ _ _ _ _ _ _ _
      | exact LeO.none _
      | refine LeO.ite ?_ ?_
      | refine LeO.bind ?_ (fun _ => ?_)
    · intro y0 y1 y2 y3 y4 y5 y6 y7 y8 y9 y10 y11 y12 y13 y14 y15 y16 y17 y18
      unfold stockadelaw04_Ip6Same.l0
      repeat' first
      | (with_reducible exact ih0 _ _ _ _ _ _ _ _ _ _ _ _ _ _ _ _ _ _)
      | (with_reducible exact ih1 _ _ _ _ _ _ _ _ _ _ _ _ _ _ _ _ _ _ _)
      | (with_reducible exact LeO.refl _)
      | (with_reducible exact LeO.none _)
      | (with_reducible refine LeO.ite ?_ ?_)
      | (with_reducible refine LeO.bind ?_ (fun _ => ?_))
      | exact ih0 _ _ _ _ _ _ _ _ _ _ _ _ _ _ _ _ _ _
      | exact ih1 _ _ _ _ _ _ _ _ _ _ _ _ _ _ _ _ _ _ _
      | exact LeO.none _
      | refine LeO.ite ?_ ?_
      | refine LeO.bind ?_ (fun _ => ?_)
theorem stockadelaw04_Ip6Same.mono : ∀ a0 k, LeO (stockadelaw04_Ip6Same.f k a0) (stockadelaw04_Ip6Same.f (k + 1) a0) := by
  intro a0 k
  obtain ⟨ih0, ih1⟩ := stockadelaw04_Ip6Same.mono_l k
  unfold stockadelaw04_Ip6Same.f
  repeat' first
      | (with_reducible exact ih0 _ _ _ _ _ _ _ _ _ _ _ _ _ _ _ _ _ _)
      | (with_reducible exact ih1 _ _ _ _ _ _ _ _ _ _ _ _ _ _ _ _ _ _ _)
      | (with_reducible exact LeO.refl _)
      | (with_reducible exact LeO.none _)
      | (with_reducible refine LeO.ite ?_ ?_)
      | (with_reducible refine LeO.bind ?_ (fun _ => ?_))
      | exact ih0 _ _ _ _ _ _ _ _ _ _ _ _ _ _ _ _ _ _
      | exact ih1 _ _ _ _ _ _ _ _ _ _ _ _ _ _ _ _ _ _ _
      | exact LeO.none _
      | refine LeO.ite ?_ ?_
      | refine LeO.bind ?_ (fun _ => ?_)
def stockadelaw04_Ip6Same.T13 : Bool × List (List Nat × List Nat) := (true, [([], []), ([0], [0]), ([1], [1]), ([2], [2]), ([], []), ([], []), ([5], [5]), ([4, 6], [4, 6]), ([3, 7], [3, 7]), ([8], [8]), ([9], [9]), ([9], [9]), ([9], [9]), ([9], [9]), ([10, 8, 0, 1, 2, 3, 4, 5, 6, 7, 8, 9, 10], [10]), ([11, 14, 0, 1, 2, 3, 4, 5, 6, 7, 8, 9, 10, 11, 14], [11]), ([12, 15, 0, 1, 2, 3, 4, 5, 6, 7, 8, 9, 10, 11, 12, 14, 15], [12]), ([13, 16, 0, 1, 2, 3, 4, 5, 6, 7, 8, 9, 10, 11, 12, 13, 14, 15, 16], [13])])
def stockadelaw04_Ip6Same.B13 : List Nat := [0, 1, 3, 7, 0, 0, 32, 112, 255, 511, 1023, 1023, 1023, 1023, 2047, 20479, 57343, 131071]
theorem stockadelaw04_Ip6Same.tab13 : rtab .any (opsOf Try.f13 13) = stockadelaw04_Ip6Same.T13 := by kernel_rfl
theorem stockadelaw04_Ip6Same.bits13 : waitsOk stockadelaw04_Ip6Same.T13.2 stockadelaw04_Ip6Same.B13 = true := by kernel_rfl
set_option maxHeartbeats 8000000 in
set_option maxRecDepth 100000 in
theorem stockadelaw04_Ip6Same.calls (k : Nat) (A0 : Option Addr) (c0 : Nat) (l0 : List Int) (r : Bool) (w : World) (hr0 : Kd.C (Kd.int .u8) w A0 l0.length l0) (hc0 : l0.length ≤ c0) (h : stockadelaw04_Ip6Same.f k l0 = some r) :
    Calls Try.prog 13 #[.slice A0 l0.length c0] w fun e w' => e = .returned (.bool r) ∧ Below w.heap.size w w' := by
  have hu55 := Try.underlying55
  have HR0 := Aside0.mk hr0
  have HC0 := Aside0.mk hc0
  clear hr0 hc0
  have HB := Aside0.mk (Below.refl w.heap.size w)
  have H : ((ip6_Parse.f l0).bind fun bt101 => (if bt101.2.2.2.2.2.2.2.2.2.2.2.2.2.2.2 = 0 then (if bt101.2.2.2.2.2.2.2.2.2.1 = true then (stockadelaw04_Ip6Same.j0 k l0 bt101.2.2.2.2.2.2.2.2.2.2.2.2.2.2.2 true bt101.1 bt101.2.1 bt101.2.2.1 bt101.2.2.2.1 bt101.2.2.2.2.1 bt101.2.2.2.2.2.1 bt101.2.2.2.2.2.2.1 bt101.2.2.2.2.2.2.2.1 bt101.2.2.2.2.2.2.2.2.1 bt101.2.2.2.2.2.2.2.2.2.1 bt101.2.2.2.2.2.2.2.2.2.2.1 bt101.2.2.2.2.2.2.2.2.2.2.2.1 bt101.2.2.2.2.2.2.2.2.2.2.2.2.1 bt101.2.2.2.2.2.2.2.2.2.2.2.2.2.1 bt101.2.2.2.2.2.2.2.2.2.2.2.2.2.2.1) else (stockadelaw04_Ip6Same.j0 k l0 bt101.2.2.2.2.2.2.2.2.2.2.2.2.2.2.2 (decide ((l0.length : Int) < 40)) bt101.1 bt101.2.1 bt101.2.2.1 bt101.2.2.2.1 bt101.2.2.2.2.1 bt101.2.2.2.2.2.1 bt101.2.2.2.2.2.2.1 bt101.2.2.2.2.2.2.2.1 bt101.2.2.2.2.2.2.2.2.1 bt101.2.2.2.2.2.2.2.2.2.1 bt101.2.2.2.2.2.2.2.2.2.2.1 bt101.2.2.2.2.2.2.2.2.2.2.2.1 bt101.2.2.2.2.2.2.2.2.2.2.2.2.1 bt101.2.2.2.2.2.2.2.2.2.2.2.2.2.1 bt101.2.2.2.2.2.2.2.2.2.2.2.2.2.2.1)) else (stockadelaw04_Ip6Same.j0 k l0 bt101.2.2.2.2.2.2.2.2.2.2.2.2.2.2.2 true bt101.1 bt101.2.1 bt101.2.2.1 bt101.2.2.2.1 bt101.2.2.2.2.1 bt101.2.2.2.2.2.1 bt101.2.2.2.2.2.2.1 bt101.2.2.2.2.2.2.2.1 bt101.2.2.2.2.2.2.2.2.1 bt101.2.2.2.2.2.2.2.2.2.1 bt101.2.2.2.2.2.2.2.2.2.2.1 bt101.2.2.2.2.2.2.2.2.2.2.2.1 bt101.2.2.2.2.2.2.2.2.2.2.2.2.1 bt101.2.2.2.2.2.2.2.2.2.2.2.2.2.1 bt101.2.2.2.2.2.2.2.2.2.2.2.2.2.2.1))) = some r := h
  clear h
  replace H := Option.bind_eq_some_iff.mp H
  obtain ⟨⟨t101, t102, t103, t104, t105, t106, t107, t108, t109, t110, t111, t112, t113, t114, t117, t120⟩, A20, H⟩ := H
  replace H : (if t120 = 0 then (if t110 = true then (stockadelaw04_Ip6Same.j0 k l0 t120 true t101 t102 t103 t104 t105 t106 t107 t108 t109 t110 t111 t112 t113 t114 t117) else (stockadelaw04_Ip6Same.j0 k l0 t120 (decide ((l0.length : Int) < 40)) t101 t102 t103 t104 t105 t106 t107 t108 t109 t110 t111 t112 t113 t114 t117)) else (stockadelaw04_Ip6Same.j0 k l0 t120 true t101 t102 t103 t104 t105 t106 t107 t108 t109 t110 t111 t112 t113 t114 t117)) = some r := H
  have A2 := Aside0.mk A20
  clear A20
  have HC3 := Aside0.mk H
  clear H
  go_enter Try.func13, Try.ntmps13
  go_upto_region 2 with (first | ((with_reducible refine gate_callee (f := 55) rfl ?_); refine goesL_ (some 15) rfl rfl Try.func55 (by kernel_rfl) rfl #[.slice A0 l0.length c0] rfl (by (try simp only [List.map_toArray, List.map_cons, List.map_nil]); first | done | rfl | (simp only [List.length_drop, List.length_take]; rfl)) ?_; (with_reducible refine (ip6_Parse.calls _ _ l0 t101 t102 t103 t104 t105 t106 t107 t108 t109 t110 t111 t112 t113 t114 t117 t120 _ ?side1 ?side2 A2.out).mono ?_); (case side1 => repeat (first | exact HR0.out | (with_reducible refine Kd.C_alloc ?_ _) | (with_reducible refine Kd.C_drewN ?_ _) | (with_reducible refine Kd.C_drew ?_))); (case side2 => exact HC0.out); rintro e w4 ⟨v115, v118, rfl, ho0, ho1, hb⟩; refine ⟨_, rfl, ?_⟩; have n0_ := Aside0.mk (Kd.R_lower ho0 (below_size (by repeat (first | (with_reducible first | exact HB.out | apply below_alloc | apply pw_below_drewN | apply below_drew1) | exact HB.out)))); have n1_ := Aside0.mk (Kd.R_lower ho1 (below_size (by repeat (first | (with_reducible first | exact HB.out | apply below_alloc | apply pw_below_drewN | apply below_drew1) | exact HB.out)))); have n2_ := Aside0.mk (below_step (by repeat (first | (with_reducible first | exact HB.out | apply below_alloc | apply pw_below_drewN | apply below_drew1) | exact HB.out)) hb); clear HB; have HO116 := n0_; have HO119 := n1_; have HB := n2_; clear n0_ n1_ n2_; (try clear hb); (try clear hb2); (try clear hk); (try clear hi); (try clear ho0); (try clear ho1)) | ((with_reducible refine gate_dst (N := 3) rfl ?_); (try (refine gate_guard (by rfl) ?_; dsimp only)); refine box_event ?hg (N := 3) ?hd (cs := #[.int .i64 0, .int .i64 0, .int .u64 0, .int .u64 0, .int .i64 0, .int .u64 0, .int .u64 0, .int .i64 0, .int .i64 0, .bool false, .int .u32 0, .int .i64 0, .bool false, .slice none 0 0, .slice none 0 0]) (t := 55) ?hr ?_; (case hd => rfl); (case hg => rfl); (case hr => first | (go_simp; done) | (go_simp; rfl)); intro gb121 hg w5 hbox hb; have n0_ := Aside0.mk (Kd.R_below (by (with_reducible repeat (first | apply Kd.R_alloc | apply Kd.R_drewN | apply Kd.R_drew)); exact HO116.out) hb); have n1_ := Aside0.mk (Kd.R_below (by (with_reducible repeat (first | apply Kd.R_alloc | apply Kd.R_drewN | apply Kd.R_drew)); exact HO119.out) hb); have n2_ := Aside0.mk (below_step (by repeat (first | (with_reducible first | exact HB.out | apply below_alloc | apply pw_below_drewN | apply below_drew1) | exact HB.out)) hb); have n3_ := Aside0.mk (hbox); have n4_ := Aside0.mk ((by rw [hg]; exact (below_size (by repeat (first | (with_reducible first | exact HB.out | apply below_alloc | apply pw_below_drewN | apply below_drew1) | exact HB.out))) : w.heap.size ≤ gb121)); have n5_ := Aside0.mk ((by rw [hg]; exact (below_size (by repeat (first | (with_reducible first | exact HB.out | apply below_alloc | apply pw_below_drewN | apply below_drew1) | exact HB.out))) : w.heap.size ≤ gb121)); clear HO116; clear HO119; clear HB; have HO116 := n0_; have HO119 := n1_; have HB := n2_; have BK121 := n3_; have GW121 := n4_; have GE121 := n5_; clear n0_ n1_ n2_ n3_ n4_ n5_; clear hb hbox hg; have hcz6_0 : w5.cell? ⟨gb121, 0, none⟩ = some (.int .i64 0) := (blk_cell BK121.out 0).trans rfl; have hcz6_1 : w5.cell? ⟨gb121, 1, none⟩ = some (.int .i64 0) := (blk_cell BK121.out 1).trans rfl; have hcz6_2 : w5.cell? ⟨gb121, 2, none⟩ = some (.int .u64 0) := (blk_cell BK121.out 2).trans rfl; have hcz6_3 : w5.cell? ⟨gb121, 3, none⟩ = some (.int .u64 0) := (blk_cell BK121.out 3).trans rfl; have hcz6_4 : w5.cell? ⟨gb121, 4, none⟩ = some (.int .i64 0) := (blk_cell BK121.out 4).trans rfl; have hcz6_5 : w5.cell? ⟨gb121, 5, none⟩ = some (.int .u64 0) := (blk_cell BK121.out 5).trans rfl; have hcz6_6 : w5.cell? ⟨gb121, 6, none⟩ = some (.int .u64 0) := (blk_cell BK121.out 6).trans rfl; have hcz6_7 : w5.cell? ⟨gb121, 7, none⟩ = some (.int .i64 0) := (blk_cell BK121.out 7).trans rfl; have hcz6_8 : w5.cell? ⟨gb121, 8, none⟩ = some (.int .i64 0) := (blk_cell BK121.out 8).trans rfl; have hcz6_9 : w5.cell? ⟨gb121, 9, none⟩ = some (.bool false) := (blk_cell BK121.out 9).trans rfl; have hcz6_10 : w5.cell? ⟨gb121, 10, none⟩ = some (.int .u32 0) := (blk_cell BK121.out 10).trans rfl; have hcz6_11 : w5.cell? ⟨gb121, 11, none⟩ = some (.int .i64 0) := (blk_cell BK121.out 11).trans rfl; have hcz6_12 : w5.cell? ⟨gb121, 12, none⟩ = some (.bool false) := (blk_cell BK121.out 12).trans rfl; have hcz6_13 : w5.cell? ⟨gb121, 13, none⟩ = some (.slice none 0 0) := (blk_cell BK121.out 13).trans rfl; have hcz6_14 : w5.cell? ⟨gb121, 14, none⟩ = some (.slice none 0 0) := (blk_cell BK121.out 14).trans rfl; have hfz6_0 := blk_frozen BK121.out 0; have hfz6_1 := blk_frozen BK121.out 1; have hfz6_2 := blk_frozen BK121.out 2; have hfz6_3 := blk_frozen BK121.out 3; have hfz6_4 := blk_frozen BK121.out 4; have hfz6_5 := blk_frozen BK121.out 5; have hfz6_6 := blk_frozen BK121.out 6; have hfz6_7 := blk_frozen BK121.out 7; have hfz6_8 := blk_frozen BK121.out 8; have hfz6_9 := blk_frozen BK121.out 9; have hfz6_10 := blk_frozen BK121.out 10; have hfz6_11 := blk_frozen BK121.out 11; have hfz6_12 := blk_frozen BK121.out 12; have hfz6_13 := blk_frozen BK121.out 13; have hfz6_14 := blk_frozen BK121.out 14; obtain ⟨Ao7, co7, eo7⟩ := Kd.R_slice HO116.out; subst eo7; obtain ⟨Ao8, co8, eo8⟩ := Kd.R_slice HO119.out; subst eo8))
  (try simp only [Act.put, List.setIfInBounds_toArray, List.set_cons_zero, List.set_cons_succ])
  go_cut [28] (fun v28 wc => ∃ (kq : Nat) (x28_2 : Bool), v28 = .bool x28_2 ∧ Aside0 (stockadelaw04_Ip6Same.j0 kq l0 t120 x28_2 t101 t102 t103 t104 t105 t106 t107 t108 t109 t110 t111 t112 t113 t114 t117 = some r) ∧ Aside0 (kq ≤ k) ∧ Aside0 (Kd.R (Kd.int .i64) 3 wc w.heap.size (fun _ => True) (.slice Ao7 t114.length co7) t114) ∧ Aside0 (Kd.R (Kd.int .u8) 5 wc w.heap.size (fun _ => True) (.slice Ao8 t117.length co8) t117) ∧ Aside0 (wc.heap[gb121]? = some (.cells #[.int .i64 t101, .int .i64 t102, .int .u64 t103, .int .u64 t104, .int .i64 t105, .int .u64 t106, .int .u64 t107, .int .i64 t108, .int .i64 t109, .bool t110, .int .u32 t111, .int .i64 t112, .bool t113, (.slice Ao7 t114.length co7), (.slice Ao8 t117.length co8)] 55 (0, 0))) ∧ Aside0 (Below w.heap.size w wc))
  case first =>
    have H := HC3.out
    clear HC3
    by_cases c9 : t120 = 0
    · rw [if_pos c9] at H
      have c9b0 : (t120 == 0) = true := beq_iff_eq.mpr c9
      have c9b1 : (t120 != 0) = false := bne_eq_false_iff_eq.mpr c9
      clear c9
      (first | rw [c9b0] | (simp only [i64_w, i32_w]; rw [c9b0]) | skip)
      by_cases c10 : t110 = true
      · subst c10
        have H1 : (stockadelaw04_Ip6Same.j0 k l0 t120 true t101 t102 t103 t104 t105 t106 t107 t108 t109 true t111 t112 t113 t114 t117) = some r := by rw [if_pos rfl] at H; exact H
        clear H
        have H := H1
        clear H1
        have H' := Aside0.mk H
        clear H
        have hcz11_0 : w5.cell? ⟨gb121, 0, none⟩ = some (.int .i64 0) := (blk_cell BK121.out 0).trans rfl
        have hcz11_1 : w5.cell? ⟨gb121, 1, none⟩ = some (.int .i64 0) := (blk_cell BK121.out 1).trans rfl
        have hcz11_2 : w5.cell? ⟨gb121, 2, none⟩ = some (.int .u64 0) := (blk_cell BK121.out 2).trans rfl
        have hcz11_3 : w5.cell? ⟨gb121, 3, none⟩ = some (.int .u64 0) := (blk_cell BK121.out 3).trans rfl
        have hcz11_4 : w5.cell? ⟨gb121, 4, none⟩ = some (.int .i64 0) := (blk_cell BK121.out 4).trans rfl
        have hcz11_5 : w5.cell? ⟨gb121, 5, none⟩ = some (.int .u64 0) := (blk_cell BK121.out 5).trans rfl
        have hcz11_6 : w5.cell? ⟨gb121, 6, none⟩ = some (.int .u64 0) := (blk_cell BK121.out 6).trans rfl
        have hcz11_7 : w5.cell? ⟨gb121, 7, none⟩ = some (.int .i64 0) := (blk_cell BK121.out 7).trans rfl
        have hcz11_8 : w5.cell? ⟨gb121, 8, none⟩ = some (.int .i64 0) := (blk_cell BK121.out 8).trans rfl
        have hcz11_9 : w5.cell? ⟨gb121, 9, none⟩ = some (.bool false) := (blk_cell BK121.out 9).trans rfl
        have hcz11_10 : w5.cell? ⟨gb121, 10, none⟩ = some (.int .u32 0) := (blk_cell BK121.out 10).trans rfl
        have hcz11_11 : w5.cell? ⟨gb121, 11, none⟩ = some (.int .i64 0) := (blk_cell BK121.out 11).trans rfl
        have hcz11_12 : w5.cell? ⟨gb121, 12, none⟩ = some (.bool false) := (blk_cell BK121.out 12).trans rfl
        have hcz11_13 : w5.cell? ⟨gb121, 13, none⟩ = some (.slice none 0 0) := (blk_cell BK121.out 13).trans rfl
        have hcz11_14 : w5.cell? ⟨gb121, 14, none⟩ = some (.slice none 0 0) := (blk_cell BK121.out 14).trans rfl
        have hfz11_0 := blk_frozen BK121.out 0
        have hfz11_1 := blk_frozen BK121.out 1
        have hfz11_2 := blk_frozen BK121.out 2
        have hfz11_3 := blk_frozen BK121.out 3
        have hfz11_4 := blk_frozen BK121.out 4
        have hfz11_5 := blk_frozen BK121.out 5
        have hfz11_6 := blk_frozen BK121.out 6
        have hfz11_7 := blk_frozen BK121.out 7
        have hfz11_8 := blk_frozen BK121.out 8
        have hfz11_9 := blk_frozen BK121.out 9
        have hfz11_10 := blk_frozen BK121.out 10
        have hfz11_11 := blk_frozen BK121.out 11
        have hfz11_12 := blk_frozen BK121.out 12
        have hfz11_13 := blk_frozen BK121.out 13
        have hfz11_14 := blk_frozen BK121.out 14
        go_wp2
        go_meet
        case rel => exact ⟨_, (true), (by first | rfl | (simp; done) | (simp [*]; done)), H', ⟨by first | omega | exact Nat.le_refl _⟩, ⟨by (with_reducible repeat (first | apply Kd.R_alloc | apply Kd.R_drewN | apply Kd.R_drew)); exact Kd.R_mono (Kd.R_far (p := ⟨gb121, 14, none⟩) (Kd.R_far (p := ⟨gb121, 13, none⟩) (Kd.R_far (p := ⟨gb121, 12, none⟩) (Kd.R_far (p := ⟨gb121, 11, none⟩) (Kd.R_far (p := ⟨gb121, 10, none⟩) (Kd.R_far (p := ⟨gb121, 9, none⟩) (Kd.R_far (p := ⟨gb121, 8, none⟩) (Kd.R_far (p := ⟨gb121, 7, none⟩) (Kd.R_far (p := ⟨gb121, 6, none⟩) (Kd.R_far (p := ⟨gb121, 5, none⟩) (Kd.R_far (p := ⟨gb121, 4, none⟩) (Kd.R_far (p := ⟨gb121, 3, none⟩) (Kd.R_far (p := ⟨gb121, 2, none⟩) (Kd.R_far (p := ⟨gb121, 1, none⟩) (Kd.R_far (p := ⟨gb121, 0, none⟩) (Kd.R_types HO116.out BK121.out (by decide)) (fun _ hk => hk.2) (.int .i64 t101)) (fun _ hk => hk.2) (.int .i64 t102)) (fun _ hk => hk.2) (.int .u64 t103)) (fun _ hk => hk.2) (.int .u64 t104)) (fun _ hk => hk.2) (.int .i64 t105)) (fun _ hk => hk.2) (.int .u64 t106)) (fun _ hk => hk.2) (.int .u64 t107)) (fun _ hk => hk.2) (.int .i64 t108)) (fun _ hk => hk.2) (.int .i64 t109)) (fun _ hk => hk.2) (.bool true)) (fun _ hk => hk.2) (.int .u32 t111)) (fun _ hk => hk.2) (.int .i64 t112)) (fun _ hk => hk.2) (.bool t113)) (fun _ hk => hk.2) (.slice Ao7 t114.length co7)) (fun _ hk => hk.2) (.slice Ao8 t117.length co8)) (fun _ hk => trivial)⟩, ⟨by (with_reducible repeat (first | apply Kd.R_alloc | apply Kd.R_drewN | apply Kd.R_drew)); exact Kd.R_mono (Kd.R_far (p := ⟨gb121, 14, none⟩) (Kd.R_far (p := ⟨gb121, 13, none⟩) (Kd.R_far (p := ⟨gb121, 12, none⟩) (Kd.R_far (p := ⟨gb121, 11, none⟩) (Kd.R_far (p := ⟨gb121, 10, none⟩) (Kd.R_far (p := ⟨gb121, 9, none⟩) (Kd.R_far (p := ⟨gb121, 8, none⟩) (Kd.R_far (p := ⟨gb121, 7, none⟩) (Kd.R_far (p := ⟨gb121, 6, none⟩) (Kd.R_far (p := ⟨gb121, 5, none⟩) (Kd.R_far (p := ⟨gb121, 4, none⟩) (Kd.R_far (p := ⟨gb121, 3, none⟩) (Kd.R_far (p := ⟨gb121, 2, none⟩) (Kd.R_far (p := ⟨gb121, 1, none⟩) (Kd.R_far (p := ⟨gb121, 0, none⟩) (Kd.R_types HO119.out BK121.out (by decide)) (fun _ hk => hk.2) (.int .i64 t101)) (fun _ hk => hk.2) (.int .i64 t102)) (fun _ hk => hk.2) (.int .u64 t103)) (fun _ hk => hk.2) (.int .u64 t104)) (fun _ hk => hk.2) (.int .i64 t105)) (fun _ hk => hk.2) (.int .u64 t106)) (fun _ hk => hk.2) (.int .u64 t107)) (fun _ hk => hk.2) (.int .i64 t108)) (fun _ hk => hk.2) (.int .i64 t109)) (fun _ hk => hk.2) (.bool true)) (fun _ hk => hk.2) (.int .u32 t111)) (fun _ hk => hk.2) (.int .i64 t112)) (fun _ hk => hk.2) (.bool t113)) (fun _ hk => hk.2) (.slice Ao7 t114.length co7)) (fun _ hk => hk.2) (.slice Ao8 t117.length co8)) (fun _ hk => trivial)⟩, ⟨by (with_reducible repeat (first | refine blk_drewN ?_ _ | refine blk_drew ?_ | refine blk_alloc ?_ _)); refine blk_put (cs := #[.int .i64 t101, .int .i64 t102, .int .u64 t103, .int .u64 t104, .int .i64 t105, .int .u64 t106, .int .u64 t107, .int .i64 t108, .int .i64 t109, .bool true, .int .u32 t111, .int .i64 t112, .bool t113, .slice Ao7 t114.length co7, .slice none 0 0]) ?_ 14 _ rfl; (with_reducible repeat (first | refine blk_drewN ?_ _ | refine blk_drew ?_ | refine blk_alloc ?_ _)); refine blk_put (cs := #[.int .i64 t101, .int .i64 t102, .int .u64 t103, .int .u64 t104, .int .i64 t105, .int .u64 t106, .int .u64 t107, .int .i64 t108, .int .i64 t109, .bool true, .int .u32 t111, .int .i64 t112, .bool t113, .slice none 0 0, .slice none 0 0]) ?_ 13 _ rfl; (with_reducible repeat (first | refine blk_drewN ?_ _ | refine blk_drew ?_ | refine blk_alloc ?_ _)); refine blk_put (cs := #[.int .i64 t101, .int .i64 t102, .int .u64 t103, .int .u64 t104, .int .i64 t105, .int .u64 t106, .int .u64 t107, .int .i64 t108, .int .i64 t109, .bool true, .int .u32 t111, .int .i64 t112, .bool false, .slice none 0 0, .slice none 0 0]) ?_ 12 _ rfl; (with_reducible repeat (first | refine blk_drewN ?_ _ | refine blk_drew ?_ | refine blk_alloc ?_ _)); refine blk_put (cs := #[.int .i64 t101, .int .i64 t102, .int .u64 t103, .int .u64 t104, .int .i64 t105, .int .u64 t106, .int .u64 t107, .int .i64 t108, .int .i64 t109, .bool true, .int .u32 t111, .int .i64 0, .bool false, .slice none 0 0, .slice none 0 0]) ?_ 11 _ rfl; (with_reducible repeat (first | refine blk_drewN ?_ _ | refine blk_drew ?_ | refine blk_alloc ?_ _)); refine blk_put (cs := #[.int .i64 t101, .int .i64 t102, .int .u64 t103, .int .u64 t104, .int .i64 t105, .int .u64 t106, .int .u64 t107, .int .i64 t108, .int .i64 t109, .bool true, .int .u32 0, .int .i64 0, .bool false, .slice none 0 0, .slice none 0 0]) ?_ 10 _ rfl; (with_reducible repeat (first | refine blk_drewN ?_ _ | refine blk_drew ?_ | refine blk_alloc ?_ _)); refine blk_put (cs := #[.int .i64 t101, .int .i64 t102, .int .u64 t103, .int .u64 t104, .int .i64 t105, .int .u64 t106, .int .u64 t107, .int .i64 t108, .int .i64 t109, .bool false, .int .u32 0, .int .i64 0, .bool false, .slice none 0 0, .slice none 0 0]) ?_ 9 _ rfl; (with_reducible repeat (first | refine blk_drewN ?_ _ | refine blk_drew ?_ | refine blk_alloc ?_ _)); refine blk_put (cs := #[.int .i64 t101, .int .i64 t102, .int .u64 t103, .int .u64 t104, .int .i64 t105, .int .u64 t106, .int .u64 t107, .int .i64 t108, .int .i64 0, .bool false, .int .u32 0, .int .i64 0, .bool false, .slice none 0 0, .slice none 0 0]) ?_ 8 _ rfl; (with_reducible repeat (first | refine blk_drewN ?_ _ | refine blk_drew ?_ | refine blk_alloc ?_ _)); refine blk_put (cs := #[.int .i64 t101, .int .i64 t102, .int .u64 t103, .int .u64 t104, .int .i64 t105, .int .u64 t106, .int .u64 t107, .int .i64 0, .int .i64 0, .bool false, .int .u32 0, .int .i64 0, .bool false, .slice none 0 0, .slice none 0 0]) ?_ 7 _ rfl; (with_reducible repeat (first | refine blk_drewN ?_ _ | refine blk_drew ?_ | refine blk_alloc ?_ _)); refine blk_put (cs := #[.int .i64 t101, .int .i64 t102, .int .u64 t103, .int .u64 t104, .int .i64 t105, .int .u64 t106, .int .u64 0, .int .i64 0, .int .i64 0, .bool false, .int .u32 0, .int .i64 0, .bool false, .slice none 0 0, .slice none 0 0]) ?_ 6 _ rfl; (with_reducible repeat (first | refine blk_drewN ?_ _ | refine blk_drew ?_ | refine blk_alloc ?_ _)); refine blk_put (cs := #[.int .i64 t101, .int .i64 t102, .int .u64 t103, .int .u64 t104, .int .i64 t105, .int .u64 0, .int .u64 0, .int .i64 0, .int .i64 0, .bool false, .int .u32 0, .int .i64 0, .bool false, .slice none 0 0, .slice none 0 0]) ?_ 5 _ rfl; (with_reducible repeat (first | refine blk_drewN ?_ _ | refine blk_drew ?_ | refine blk_alloc ?_ _)); refine blk_put (cs := #[.int .i64 t101, .int .i64 t102, .int .u64 t103, .int .u64 t104, .int .i64 0, .int .u64 0, .int .u64 0, .int .i64 0, .int .i64 0, .bool false, .int .u32 0, .int .i64 0, .bool false, .slice none 0 0, .slice none 0 0]) ?_ 4 _ rfl; (with_reducible repeat (first | refine blk_drewN ?_ _ | refine blk_drew ?_ | refine blk_alloc ?_ _)); refine blk_put (cs := #[.int .i64 t101, .int .i64 t102, .int .u64 t103, .int .u64 0, .int .i64 0, .int .u64 0, .int .u64 0, .int .i64 0, .int .i64 0, .bool false, .int .u32 0, .int .i64 0, .bool false, .slice none 0 0, .slice none 0 0]) ?_ 3 _ rfl; (with_reducible repeat (first | refine blk_drewN ?_ _ | refine blk_drew ?_ | refine blk_alloc ?_ _)); refine blk_put (cs := #[.int .i64 t101, .int .i64 t102, .int .u64 0, .int .u64 0, .int .i64 0, .int .u64 0, .int .u64 0, .int .i64 0, .int .i64 0, .bool false, .int .u32 0, .int .i64 0, .bool false, .slice none 0 0, .slice none 0 0]) ?_ 2 _ rfl; (with_reducible repeat (first | refine blk_drewN ?_ _ | refine blk_drew ?_ | refine blk_alloc ?_ _)); refine blk_put (cs := #[.int .i64 t101, .int .i64 0, .int .u64 0, .int .u64 0, .int .i64 0, .int .u64 0, .int .u64 0, .int .i64 0, .int .i64 0, .bool false, .int .u32 0, .int .i64 0, .bool false, .slice none 0 0, .slice none 0 0]) ?_ 1 _ rfl; (with_reducible repeat (first | refine blk_drewN ?_ _ | refine blk_drew ?_ | refine blk_alloc ?_ _)); refine blk_put (cs := #[.int .i64 0, .int .i64 0, .int .u64 0, .int .u64 0, .int .i64 0, .int .u64 0, .int .u64 0, .int .i64 0, .int .i64 0, .bool false, .int .u32 0, .int .i64 0, .bool false, .slice none 0 0, .slice none 0 0]) ?_ 0 _ rfl; (with_reducible repeat (first | refine blk_drewN ?_ _ | refine blk_drew ?_ | refine blk_alloc ?_ _)); exact BK121.out⟩, ⟨by repeat (first | (with_reducible first | exact HB.out | apply below_alloc | apply pw_below_drewN | apply below_drew1 | refine below_set ?_ GE121.out) | exact HB.out)⟩⟩
      · replace c10 := Bool.eq_false_iff.mpr c10
        subst c10
        have H1 : (stockadelaw04_Ip6Same.j0 k l0 t120 (decide ((l0.length : Int) < 40)) t101 t102 t103 t104 t105 t106 t107 t108 t109 false t111 t112 t113 t114 t117) = some r := by rw [if_neg (show ¬ (false = true) by decide)] at H; exact H
        clear H
        have H := H1
        clear H1
        have H' := Aside0.mk H
        clear H
        have hcz12_0 : w5.cell? ⟨gb121, 0, none⟩ = some (.int .i64 0) := (blk_cell BK121.out 0).trans rfl
        have hcz12_1 : w5.cell? ⟨gb121, 1, none⟩ = some (.int .i64 0) := (blk_cell BK121.out 1).trans rfl
        have hcz12_2 : w5.cell? ⟨gb121, 2, none⟩ = some (.int .u64 0) := (blk_cell BK121.out 2).trans rfl
        have hcz12_3 : w5.cell? ⟨gb121, 3, none⟩ = some (.int .u64 0) := (blk_cell BK121.out 3).trans rfl
        have hcz12_4 : w5.cell? ⟨gb121, 4, none⟩ = some (.int .i64 0) := (blk_cell BK121.out 4).trans rfl
        have hcz12_5 : w5.cell? ⟨gb121, 5, none⟩ = some (.int .u64 0) := (blk_cell BK121.out 5).trans rfl
        have hcz12_6 : w5.cell? ⟨gb121, 6, none⟩ = some (.int .u64 0) := (blk_cell BK121.out 6).trans rfl
        have hcz12_7 : w5.cell? ⟨gb121, 7, none⟩ = some (.int .i64 0) := (blk_cell BK121.out 7).trans rfl
        have hcz12_8 : w5.cell? ⟨gb121, 8, none⟩ = some (.int .i64 0) := (blk_cell BK121.out 8).trans rfl
        have hcz12_9 : w5.cell? ⟨gb121, 9, none⟩ = some (.bool false) := (blk_cell BK121.out 9).trans rfl
        have hcz12_10 : w5.cell? ⟨gb121, 10, none⟩ = some (.int .u32 0) := (blk_cell BK121.out 10).trans rfl
        have hcz12_11 : w5.cell? ⟨gb121, 11, none⟩ = some (.int .i64 0) := (blk_cell BK121.out 11).trans rfl
        have hcz12_12 : w5.cell? ⟨gb121, 12, none⟩ = some (.bool false) := (blk_cell BK121.out 12).trans rfl
        have hcz12_13 : w5.cell? ⟨gb121, 13, none⟩ = some (.slice none 0 0) := (blk_cell BK121.out 13).trans rfl
        have hcz12_14 : w5.cell? ⟨gb121, 14, none⟩ = some (.slice none 0 0) := (blk_cell BK121.out 14).trans rfl
        have hfz12_0 := blk_frozen BK121.out 0
        have hfz12_1 := blk_frozen BK121.out 1
        have hfz12_2 := blk_frozen BK121.out 2
        have hfz12_3 := blk_frozen BK121.out 3
        have hfz12_4 := blk_frozen BK121.out 4
        have hfz12_5 := blk_frozen BK121.out 5
        have hfz12_6 := blk_frozen BK121.out 6
        have hfz12_7 := blk_frozen BK121.out 7
        have hfz12_8 := blk_frozen BK121.out 8
        have hfz12_9 := blk_frozen BK121.out 9
        have hfz12_10 := blk_frozen BK121.out 10
        have hfz12_11 := blk_frozen BK121.out 11
        have hfz12_12 := blk_frozen BK121.out 12
        have hfz12_13 := blk_frozen BK121.out 13
        have hfz12_14 := blk_frozen BK121.out 14
        go_wp2
        go_meet
        case rel => exact ⟨_, (decide ((l0.length : Int) < 40)), (by first | rfl | (simp; done) | (simp [*]; done)), H', ⟨by first | omega | exact Nat.le_refl _⟩, ⟨by (with_reducible repeat (first | apply Kd.R_alloc | apply Kd.R_drewN | apply Kd.R_drew)); exact Kd.R_mono (Kd.R_far (p := ⟨gb121, 14, none⟩) (Kd.R_far (p := ⟨gb121, 13, none⟩) (Kd.R_far (p := ⟨gb121, 12, none⟩) (Kd.R_far (p := ⟨gb121, 11, none⟩) (Kd.R_far (p := ⟨gb121, 10, none⟩) (Kd.R_far (p := ⟨gb121, 9, none⟩) (Kd.R_far (p := ⟨gb121, 8, none⟩) (Kd.R_far (p := ⟨gb121, 7, none⟩) (Kd.R_far (p := ⟨gb121, 6, none⟩) (Kd.R_far (p := ⟨gb121, 5, none⟩) (Kd.R_far (p := ⟨gb121, 4, none⟩) (Kd.R_far (p := ⟨gb121, 3, none⟩) (Kd.R_far (p := ⟨gb121, 2, none⟩) (Kd.R_far (p := ⟨gb121, 1, none⟩) (Kd.R_far (p := ⟨gb121, 0, none⟩) (Kd.R_types HO116.out BK121.out (by decide)) (fun _ hk => hk.2) (.int .i64 t101)) (fun _ hk => hk.2) (.int .i64 t102)) (fun _ hk => hk.2) (.int .u64 t103)) (fun _ hk => hk.2) (.int .u64 t104)) (fun _ hk => hk.2) (.int .i64 t105)) (fun _ hk => hk.2) (.int .u64 t106)) (fun _ hk => hk.2) (.int .u64 t107)) (fun _ hk => hk.2) (.int .i64 t108)) (fun _ hk => hk.2) (.int .i64 t109)) (fun _ hk => hk.2) (.bool false)) (fun _ hk => hk.2) (.int .u32 t111)) (fun _ hk => hk.2) (.int .i64 t112)) (fun _ hk => hk.2) (.bool t113)) (fun _ hk => hk.2) (.slice Ao7 t114.length co7)) (fun _ hk => hk.2) (.slice Ao8 t117.length co8)) (fun _ hk => trivial)⟩, ⟨by (with_reducible repeat (first | apply Kd.R_alloc | apply Kd.R_drewN | apply Kd.R_drew)); exact Kd.R_mono (Kd.R_far (p := ⟨gb121, 14, none⟩) (Kd.R_far (p := ⟨gb121, 13, none⟩) (Kd.R_far (p := ⟨gb121, 12, none⟩) (Kd.R_far (p := ⟨gb121, 11, none⟩) (Kd.R_far (p := ⟨gb121, 10, none⟩) (Kd.R_far (p := ⟨gb121, 9, none⟩) (Kd.R_far (p := ⟨gb121, 8, none⟩) (Kd.R_far (p := ⟨gb121, 7, none⟩) (Kd.R_far (p := ⟨gb121, 6, none⟩) (Kd.R_far (p := ⟨gb121, 5, none⟩) (Kd.R_far (p := ⟨gb121, 4, none⟩) (Kd.R_far (p := ⟨gb121, 3, none⟩) (Kd.R_far (p := ⟨gb121, 2, none⟩) (Kd.R_far (p := ⟨gb121, 1, none⟩) (Kd.R_far (p := ⟨gb121, 0, none⟩) (Kd.R_types HO119.out BK121.out (by decide)) (fun _ hk => hk.2) (.int .i64 t101)) (fun _ hk => hk.2) (.int .i64 t102)) (fun _ hk => hk.2) (.int .u64 t103)) (fun _ hk => hk.2) (.int .u64 t104)) (fun _ hk => hk.2) (.int .i64 t105)) (fun _ hk => hk.2) (.int .u64 t106)) (fun _ hk => hk.2) (.int .u64 t107)) (fun _ hk => hk.2) (.int .i64 t108)) (fun _ hk => hk.2) (.int .i64 t109)) (fun _ hk => hk.2) (.bool false)) (fun _ hk => hk.2) (.int .u32 t111)) (fun _ hk => hk.2) (.int .i64 t112)) (fun _ hk => hk.2) (.bool t113)) (fun _ hk => hk.2) (.slice Ao7 t114.length co7)) (fun _ hk => hk.2) (.slice Ao8 t117.length co8)) (fun _ hk => trivial)⟩, ⟨by (with_reducible repeat (first | refine blk_drewN ?_ _ | refine blk_drew ?_ | refine blk_alloc ?_ _)); refine blk_put (cs := #[.int .i64 t101, .int .i64 t102, .int .u64 t103, .int .u64 t104, .int .i64 t105, .int .u64 t106, .int .u64 t107, .int .i64 t108, .int .i64 t109, .bool false, .int .u32 t111, .int .i64 t112, .bool t113, .slice Ao7 t114.length co7, .slice none 0 0]) ?_ 14 _ rfl; (with_reducible repeat (first | refine blk_drewN ?_ _ | refine blk_drew ?_ | refine blk_alloc ?_ _)); refine blk_put (cs := #[.int .i64 t101, .int .i64 t102, .int .u64 t103, .int .u64 t104, .int .i64 t105, .int .u64 t106, .int .u64 t107, .int .i64 t108, .int .i64 t109, .bool false, .int .u32 t111, .int .i64 t112, .bool t113, .slice none 0 0, .slice none 0 0]) ?_ 13 _ rfl; (with_reducible repeat (first | refine blk_drewN ?_ _ | refine blk_drew ?_ | refine blk_alloc ?_ _)); refine blk_put (cs := #[.int .i64 t101, .int .i64 t102, .int .u64 t103, .int .u64 t104, .int .i64 t105, .int .u64 t106, .int .u64 t107, .int .i64 t108, .int .i64 t109, .bool false, .int .u32 t111, .int .i64 t112, .bool false, .slice none 0 0, .slice none 0 0]) ?_ 12 _ rfl; (with_reducible repeat (first | refine blk_drewN ?_ _ | refine blk_drew ?_ | refine blk_alloc ?_ _)); refine blk_put (cs := #[.int .i64 t101, .int .i64 t102, .int .u64 t103, .int .u64 t104, .int .i64 t105, .int .u64 t106, .int .u64 t107, .int .i64 t108, .int .i64 t109, .bool false, .int .u32 t111, .int .i64 0, .bool false, .slice none 0 0, .slice none 0 0]) ?_ 11 _ rfl; (with_reducible repeat (first | refine blk_drewN ?_ _ | refine blk_drew ?_ | refine blk_alloc ?_ _)); refine blk_put (cs := #[.int .i64 t101, .int .i64 t102, .int .u64 t103, .int .u64 t104, .int .i64 t105, .int .u64 t106, .int .u64 t107, .int .i64 t108, .int .i64 t109, .bool false, .int .u32 0, .int .i64 0, .bool false, .slice none 0 0, .slice none 0 0]) ?_ 10 _ rfl; (with_reducible repeat (first | refine blk_drewN ?_ _ | refine blk_drew ?_ | refine blk_alloc ?_ _)); refine blk_put (cs := #[.int .i64 t101, .int .i64 t102, .int .u64 t103, .int .u64 t104, .int .i64 t105, .int .u64 t106, .int .u64 t107, .int .i64 t108, .int .i64 t109, .bool false, .int .u32 0, .int .i64 0, .bool false, .slice none 0 0, .slice none 0 0]) ?_ 9 _ rfl; (with_reducible repeat (first | refine blk_drewN ?_ _ | refine blk_drew ?_ | refine blk_alloc ?_ _)); refine blk_put (cs := #[.int .i64 t101, .int .i64 t102, .int .u64 t103, .int .u64 t104, .int .i64 t105, .int .u64 t106, .int .u64 t107, .int .i64 t108, .int .i64 0, .bool false, .int .u32 0, .int .i64 0, .bool false, .slice none 0 0, .slice none 0 0]) ?_ 8 _ rfl; (with_reducible repeat (first | refine blk_drewN ?_ _ | refine blk_drew ?_ | refine blk_alloc ?_ _)); refine blk_put (cs := #[.int .i64 t101, .int .i64 t102, .int .u64 t103, .int .u64 t104, .int .i64 t105, .int .u64 t106, .int .u64 t107, .int .i64 0, .int .i64 0, .bool false, .int .u32 0, .int .i64 0, .bool false, .slice none 0 0, .slice none 0 0]) ?_ 7 _ rfl; (with_reducible repeat (first | refine blk_drewN ?_ _ | refine blk_drew ?_ | refine blk_alloc ?_ _)); refine blk_put (cs := #[.int .i64 t101, .int .i64 t102, .int .u64 t103, .int .u64 t104, .int .i64 t105, .int .u64 t106, .int .u64 0, .int .i64 0, .int .i64 0, .bool false, .int .u32 0, .int .i64 0, .bool false, .slice none 0 0, .slice none 0 0]) ?_ 6 _ rfl; (with_reducible repeat (first | refine blk_drewN ?_ _ | refine blk_drew ?_ | refine blk_alloc ?_ _)); refine blk_put (cs := #[.int .i64 t101, .int .i64 t102, .int .u64 t103, .int .u64 t104, .int .i64 t105, .int .u64 0, .int .u64 0, .int .i64 0, .int .i64 0, .bool false, .int .u32 0, .int .i64 0, .bool false, .slice none 0 0, .slice none 0 0]) ?_ 5 _ rfl; (with_reducible repeat (first | refine blk_drewN ?_ _ | refine blk_drew ?_ | refine blk_alloc ?_ _)); refine blk_put (cs := #[.int .i64 t101, .int .i64 t102, .int .u64 t103, .int .u64 t104, .int .i64 0, .int .u64 0, .int .u64 0, .int .i64 0, .int .i64 0, .bool false, .int .u32 0, .int .i64 0, .bool false, .slice none 0 0, .slice none 0 0]) ?_ 4 _ rfl; (with_reducible repeat (first | refine blk_drewN ?_ _ | refine blk_drew ?_ | refine blk_alloc ?_ _)); refine blk_put (cs := #[.int .i64 t101, .int .i64 t102, .int .u64 t103, .int .u64 0, .int .i64 0, .int .u64 0, .int .u64 0, .int .i64 0, .int .i64 0, .bool false, .int .u32 0, .int .i64 0, .bool false, .slice none 0 0, .slice none 0 0]) ?_ 3 _ rfl; (with_reducible repeat (first | refine blk_drewN ?_ _ | refine blk_drew ?_ | refine blk_alloc ?_ _)); refine blk_put (cs := #[.int .i64 t101, .int .i64 t102, .int .u64 0, .int .u64 0, .int .i64 0, .int .u64 0, .int .u64 0, .int .i64 0, .int .i64 0, .bool false, .int .u32 0, .int .i64 0, .bool false, .slice none 0 0, .slice none 0 0]) ?_ 2 _ rfl; (with_reducible repeat (first | refine blk_drewN ?_ _ | refine blk_drew ?_ | refine blk_alloc ?_ _)); refine blk_put (cs := #[.int .i64 t101, .int .i64 0, .int .u64 0, .int .u64 0, .int .i64 0, .int .u64 0, .int .u64 0, .int .i64 0, .int .i64 0, .bool false, .int .u32 0, .int .i64 0, .bool false, .slice none 0 0, .slice none 0 0]) ?_ 1 _ rfl; (with_reducible repeat (first | refine blk_drewN ?_ _ | refine blk_drew ?_ | refine blk_alloc ?_ _)); refine blk_put (cs := #[.int .i64 0, .int .i64 0, .int .u64 0, .int .u64 0, .int .i64 0, .int .u64 0, .int .u64 0, .int .i64 0, .int .i64 0, .bool false, .int .u32 0, .int .i64 0, .bool false, .slice none 0 0, .slice none 0 0]) ?_ 0 _ rfl; (with_reducible repeat (first | refine blk_drewN ?_ _ | refine blk_drew ?_ | refine blk_alloc ?_ _)); exact BK121.out⟩, ⟨by repeat (first | (with_reducible first | exact HB.out | apply below_alloc | apply pw_below_drewN | apply below_drew1 | refine below_set ?_ GE121.out) | exact HB.out)⟩⟩
    · rw [if_neg c9] at H
      have c9b0 : (t120 == 0) = false := beq_eq_false_iff_ne.mpr c9
      have c9b1 : (t120 != 0) = true := bne_iff_ne.mpr c9
      (first | rw [c9b0] | (simp only [i64_w, i32_w]; rw [c9b0]) | skip)
      have H' := Aside0.mk H
      clear H
      go_wp2
      go_meet
      case rel => exact ⟨_, (true), (by first | rfl | (simp; done) | (simp [*]; done)), H', ⟨by first | omega | exact Nat.le_refl _⟩, ⟨by (with_reducible repeat (first | apply Kd.R_alloc | apply Kd.R_drewN | apply Kd.R_drew)); exact Kd.R_mono (Kd.R_far (p := ⟨gb121, 14, none⟩) (Kd.R_far (p := ⟨gb121, 13, none⟩) (Kd.R_far (p := ⟨gb121, 12, none⟩) (Kd.R_far (p := ⟨gb121, 11, none⟩) (Kd.R_far (p := ⟨gb121, 10, none⟩) (Kd.R_far (p := ⟨gb121, 9, none⟩) (Kd.R_far (p := ⟨gb121, 8, none⟩) (Kd.R_far (p := ⟨gb121, 7, none⟩) (Kd.R_far (p := ⟨gb121, 6, none⟩) (Kd.R_far (p := ⟨gb121, 5, none⟩) (Kd.R_far (p := ⟨gb121, 4, none⟩) (Kd.R_far (p := ⟨gb121, 3, none⟩) (Kd.R_far (p := ⟨gb121, 2, none⟩) (Kd.R_far (p := ⟨gb121, 1, none⟩) (Kd.R_far (p := ⟨gb121, 0, none⟩) (Kd.R_types HO116.out BK121.out (by decide)) (fun _ hk => hk.2) (.int .i64 t101)) (fun _ hk => hk.2) (.int .i64 t102)) (fun _ hk => hk.2) (.int .u64 t103)) (fun _ hk => hk.2) (.int .u64 t104)) (fun _ hk => hk.2) (.int .i64 t105)) (fun _ hk => hk.2) (.int .u64 t106)) (fun _ hk => hk.2) (.int .u64 t107)) (fun _ hk => hk.2) (.int .i64 t108)) (fun _ hk => hk.2) (.int .i64 t109)) (fun _ hk => hk.2) (.bool t110)) (fun _ hk => hk.2) (.int .u32 t111)) (fun _ hk => hk.2) (.int .i64 t112)) (fun _ hk => hk.2) (.bool t113)) (fun _ hk => hk.2) (.slice Ao7 t114.length co7)) (fun _ hk => hk.2) (.slice Ao8 t117.length co8)) (fun _ hk => trivial)⟩, ⟨by (with_reducible repeat (first | apply Kd.R_alloc | apply Kd.R_drewN | apply Kd.R_drew)); exact Kd.R_mono (Kd.R_far (p := ⟨gb121, 14, none⟩) (Kd.R_far (p := ⟨gb121, 13, none⟩) (Kd.R_far (p := ⟨gb121, 12, none⟩) (Kd.R_far (p := ⟨gb121, 11, none⟩) (Kd.R_far (p := ⟨gb121, 10, none⟩) (Kd.R_far (p := ⟨gb121, 9, none⟩) (Kd.R_far (p := ⟨gb121, 8, none⟩) (Kd.R_far (p := ⟨gb121, 7, none⟩) (Kd.R_far (p := ⟨gb121, 6, none⟩) (Kd.R_far (p := ⟨gb121, 5, none⟩) (Kd.R_far (p := ⟨gb121, 4, none⟩) (Kd.R_far (p := ⟨gb121, 3, none⟩) (Kd.R_far (p := ⟨gb121, 2, none⟩) (Kd.R_far (p := ⟨gb121, 1, none⟩) (Kd.R_far (p := ⟨gb121, 0, none⟩) (Kd.R_types HO119.out BK121.out (by decide)) (fun _ hk => hk.2) (.int .i64 t101)) (fun _ hk => hk.2) (.int .i64 t102)) (fun _ hk => hk.2) (.int .u64 t103)) (fun _ hk => hk.2) (.int .u64 t104)) (fun _ hk => hk.2) (.int .i64 t105)) (fun _ hk => hk.2) (.int .u64 t106)) (fun _ hk => hk.2) (.int .u64 t107)) (fun _ hk => hk.2) (.int .i64 t108)) (fun _ hk => hk.2) (.int .i64 t109)) (fun _ hk => hk.2) (.bool t110)) (fun _ hk => hk.2) (.int .u32 t111)) (fun _ hk => hk.2) (.int .i64 t112)) (fun _ hk => hk.2) (.bool t113)) (fun _ hk => hk.2) (.slice Ao7 t114.length co7)) (fun _ hk => hk.2) (.slice Ao8 t117.length co8)) (fun _ hk => trivial)⟩, ⟨by (with_reducible repeat (first | refine blk_drewN ?_ _ | refine blk_drew ?_ | refine blk_alloc ?_ _)); refine blk_put (cs := #[.int .i64 t101, .int .i64 t102, .int .u64 t103, .int .u64 t104, .int .i64 t105, .int .u64 t106, .int .u64 t107, .int .i64 t108, .int .i64 t109, .bool t110, .int .u32 t111, .int .i64 t112, .bool t113, .slice Ao7 t114.length co7, .slice none 0 0]) ?_ 14 _ rfl; (with_reducible repeat (first | refine blk_drewN ?_ _ | refine blk_drew ?_ | refine blk_alloc ?_ _)); refine blk_put (cs := #[.int .i64 t101, .int .i64 t102, .int .u64 t103, .int .u64 t104, .int .i64 t105, .int .u64 t106, .int .u64 t107, .int .i64 t108, .int .i64 t109, .bool t110, .int .u32 t111, .int .i64 t112, .bool t113, .slice none 0 0, .slice none 0 0]) ?_ 13 _ rfl; (with_reducible repeat (first | refine blk_drewN ?_ _ | refine blk_drew ?_ | refine blk_alloc ?_ _)); refine blk_put (cs := #[.int .i64 t101, .int .i64 t102, .int .u64 t103, .int .u64 t104, .int .i64 t105, .int .u64 t106, .int .u64 t107, .int .i64 t108, .int .i64 t109, .bool t110, .int .u32 t111, .int .i64 t112, .bool false, .slice none 0 0, .slice none 0 0]) ?_ 12 _ rfl; (with_reducible repeat (first | refine blk_drewN ?_ _ | refine blk_drew ?_ | refine blk_alloc ?_ _)); refine blk_put (cs := #[.int .i64 t101, .int .i64 t102, .int .u64 t103, .int .u64 t104, .int .i64 t105, .int .u64 t106, .int .u64 t107, .int .i64 t108, .int .i64 t109, .bool t110, .int .u32 t111, .int .i64 0, .bool false, .slice none 0 0, .slice none 0 0]) ?_ 11 _ rfl; (with_reducible repeat (first | refine blk_drewN ?_ _ | refine blk_drew ?_ | refine blk_alloc ?_ _)); refine blk_put (cs := #[.int .i64 t101, .int .i64 t102, .int .u64 t103, .int .u64 t104, .int .i64 t105, .int .u64 t106, .int .u64 t107, .int .i64 t108, .int .i64 t109, .bool t110, .int .u32 0, .int .i64 0, .bool false, .slice none 0 0, .slice none 0 0]) ?_ 10 _ rfl; (with_reducible repeat (first | refine blk_drewN ?_ _ | refine blk_drew ?_ | refine blk_alloc ?_ _)); refine blk_put (cs := #[.int .i64 t101, .int .i64 t102, .int .u64 t103, .int .u64 t104, .int .i64 t105, .int .u64 t106, .int .u64 t107, .int .i64 t108, .int .i64 t109, .bool false, .int .u32 0, .int .i64 0, .bool false, .slice none 0 0, .slice none 0 0]) ?_ 9 _ rfl; (with_reducible repeat (first | refine blk_drewN ?_ _ | refine blk_drew ?_ | refine blk_alloc ?_ _)); refine blk_put (cs := #[.int .i64 t101, .int .i64 t102, .int .u64 t103, .int .u64 t104, .int .i64 t105, .int .u64 t106, .int .u64 t107, .int .i64 t108, .int .i64 0, .bool false, .int .u32 0, .int .i64 0, .bool false, .slice none 0 0, .slice none 0 0]) ?_ 8 _ rfl; (with_reducible repeat (first | refine blk_drewN ?_ _ | refine blk_drew ?_ | refine blk_alloc ?_ _)); refine blk_put (cs := #[.int .i64 t101, .int .i64 t102, .int .u64 t103, .int .u64 t104, .int .i64 t105, .int .u64 t106, .int .u64 t107, .int .i64 0, .int .i64 0, .bool false, .int .u32 0, .int .i64 0, .bool false, .slice none 0 0, .slice none 0 0]) ?_ 7 _ rfl; (with_reducible repeat (first | refine blk_drewN ?_ _ | refine blk_drew ?_ | refine blk_alloc ?_ _)); refine blk_put (cs := #[.int .i64 t101, .int .i64 t102, .int .u64 t103, .int .u64 t104, .int .i64 t105, .int .u64 t106, .int .u64 0, .int .i64 0, .int .i64 0, .bool false, .int .u32 0, .int .i64 0, .bool false, .slice none 0 0, .slice none 0 0]) ?_ 6 _ rfl; (with_reducible repeat (first | refine blk_drewN ?_ _ | refine blk_drew ?_ | refine blk_alloc ?_ _)); refine blk_put (cs := #[.int .i64 t101, .int .i64 t102, .int .u64 t103, .int .u64 t104, .int .i64 t105, .int .u64 0, .int .u64 0, .int .i64 0, .int .i64 0, .bool false, .int .u32 0, .int .i64 0, .bool false, .slice none 0 0, .slice none 0 0]) ?_ 5 _ rfl; (with_reducible repeat (first | refine blk_drewN ?_ _ | refine blk_drew ?_ | refine blk_alloc ?_ _)); refine blk_put (cs := #[.int .i64 t101, .int .i64 t102, .int .u64 t103, .int .u64 t104, .int .i64 0, .int .u64 0, .int .u64 0, .int .i64 0, .int .i64 0, .bool false, .int .u32 0, .int .i64 0, .bool false, .slice none 0 0, .slice none 0 0]) ?_ 4 _ rfl; (with_reducible repeat (first | refine blk_drewN ?_ _ | refine blk_drew ?_ | refine blk_alloc ?_ _)); refine blk_put (cs := #[.int .i64 t101, .int .i64 t102, .int .u64 t103, .int .u64 0, .int .i64 0, .int .u64 0, .int .u64 0, .int .i64 0, .int .i64 0, .bool false, .int .u32 0, .int .i64 0, .bool false, .slice none 0 0, .slice none 0 0]) ?_ 3 _ rfl; (with_reducible repeat (first | refine blk_drewN ?_ _ | refine blk_drew ?_ | refine blk_alloc ?_ _)); refine blk_put (cs := #[.int .i64 t101, .int .i64 t102, .int .u64 0, .int .u64 0, .int .i64 0, .int .u64 0, .int .u64 0, .int .i64 0, .int .i64 0, .bool false, .int .u32 0, .int .i64 0, .bool false, .slice none 0 0, .slice none 0 0]) ?_ 2 _ rfl; (with_reducible repeat (first | refine blk_drewN ?_ _ | refine blk_drew ?_ | refine blk_alloc ?_ _)); refine blk_put (cs := #[.int .i64 t101, .int .i64 0, .int .u64 0, .int .u64 0, .int .i64 0, .int .u64 0, .int .u64 0, .int .i64 0, .int .i64 0, .bool false, .int .u32 0, .int .i64 0, .bool false, .slice none 0 0, .slice none 0 0]) ?_ 1 _ rfl; (with_reducible repeat (first | refine blk_drewN ?_ _ | refine blk_drew ?_ | refine blk_alloc ?_ _)); refine blk_put (cs := #[.int .i64 0, .int .i64 0, .int .u64 0, .int .u64 0, .int .i64 0, .int .u64 0, .int .u64 0, .int .i64 0, .int .i64 0, .bool false, .int .u32 0, .int .i64 0, .bool false, .slice none 0 0, .slice none 0 0]) ?_ 0 _ rfl; (with_reducible repeat (first | refine blk_drewN ?_ _ | refine blk_drew ?_ | refine blk_alloc ?_ _)); exact BK121.out⟩, ⟨by repeat (first | (with_reducible first | exact HB.out | apply below_alloc | apply pw_below_drewN | apply below_drew1 | refine below_set ?_ GE121.out) | exact HB.out)⟩⟩
  case rest =>
    clear HC3
    try clear c1
    try clear p2
    try clear c5
    try clear p6
    try clear c9
    try clear c9b0
    try clear c9b1
    try clear c10
    try clear hcz11_0
    try clear hcz11_1
    try clear hcz11_10
    try clear hcz11_11
    try clear hcz11_12
    try clear hcz11_13
    try clear hcz11_14
    try clear hcz11_2
    try clear hcz11_3
    try clear hcz11_4
    try clear hcz11_5
    try clear hcz11_6
    try clear hcz11_7
    try clear hcz11_8
    try clear hcz11_9
    try clear hcz12_0
    try clear hcz12_1
    try clear hcz12_10
    try clear hcz12_11
    try clear hcz12_12
    try clear hcz12_13
    try clear hcz12_14
    try clear hcz12_2
    try clear hcz12_3
    try clear hcz12_4
    try clear hcz12_5
    try clear hcz12_6
    try clear hcz12_7
    try clear hcz12_8
    try clear hcz12_9
    try clear hcz6_0
    try clear hcz6_1
    try clear hcz6_10
    try clear hcz6_11
    try clear hcz6_12
    try clear hcz6_13
    try clear hcz6_14
    try clear hcz6_2
    try clear hcz6_3
    try clear hcz6_4
    try clear hcz6_5
    try clear hcz6_6
    try clear hcz6_7
    try clear hcz6_8
    try clear hcz6_9
    try clear hfz11_0
    try clear hfz11_1
    try clear hfz11_10
    try clear hfz11_11
    try clear hfz11_12
    try clear hfz11_13
    try clear hfz11_14
    try clear hfz11_2
    try clear hfz11_3
    try clear hfz11_4
    try clear hfz11_5
    try clear hfz11_6
    try clear hfz11_7
    try clear hfz11_8
    try clear hfz11_9
    try clear hfz12_0
    try clear hfz12_1
    try clear hfz12_10
    try clear hfz12_11
    try clear hfz12_12
    try clear hfz12_13
    try clear hfz12_14
    try clear hfz12_2
    try clear hfz12_3
    try clear hfz12_4
    try clear hfz12_5
    try clear hfz12_6
    try clear hfz12_7
    try clear hfz12_8
    try clear hfz12_9
    try clear hfz6_0
    try clear hfz6_1
    try clear hfz6_10
    try clear hfz6_11
    try clear hfz6_12
    try clear hfz6_13
    try clear hfz6_14
    try clear hfz6_2
    try clear hfz6_3
    try clear hfz6_4
    try clear hfz6_5
    try clear hfz6_6
    try clear hfz6_7
    try clear hfz6_8
    try clear hfz6_9
    obtain ⟨kq, x28_2, rfl, HA, HJ2, HO_122013, HO_122014, BK121, HB⟩ := hcut
    cases kq with
    | zero => exact absurd HA.out (by simp [stockadelaw04_Ip6Same.j0])
    | succ kj2 =>
      have H := HA.out
      clear HA
      simp only [stockadelaw04_Ip6Same.j0] at H
      by_cases c13 : x28_2 = true
      · subst c13
        have H1 : ((stockadelaw04_alive.f).bind fun t122 => (if t122 = true then (if t120 = 0 then (some (decide ((l0.length : Int) ≥ 40))) else (some true)) else (some false))) = some r := by rw [if_pos rfl] at H; exact H
        clear H
        have H := H1
        clear H1
        replace H := Option.bind_eq_some_iff.mp H
        obtain ⟨t122, A140, H⟩ := H
        replace H : (if t122 = true then (if t120 = 0 then (some (decide ((l0.length : Int) ≥ 40))) else (some true)) else (some false)) = some r := H
        have A14 := Aside0.mk A140
        clear A140
        by_cases c15 : t122 = true
        · subst c15
          have H1 : (if t120 = 0 then (some (decide ((l0.length : Int) ≥ 40))) else (some true)) = some r := by rw [if_pos rfl] at H; exact H
          clear H
          have H := H1
          clear H1
          by_cases c16 : t120 = 0
          · rw [if_pos c16] at H
            have c16b0 : (t120 == 0) = true := beq_iff_eq.mpr c16
            have c16b1 : (t120 != 0) = false := bne_eq_false_iff_eq.mpr c16
            clear c16
            obtain rfl := Option.some.inj H
            go_wp2_with (first | ((with_reducible refine gate_callee (f := 54) rfl ?_); refine goesL_ (some 29) rfl rfl Try.func54 (by kernel_rfl) rfl #[] rfl (by (try simp only [List.map_toArray, List.map_cons, List.map_nil]); first | done | rfl | (simp only [List.length_drop, List.length_take]; rfl)) ?_; (with_reducible refine (stockadelaw04_alive.calls  true _ A14.out).mono ?_); rintro e w17 ⟨rfl, hb⟩; refine ⟨_, rfl, ?_⟩; have n0_ := Aside0.mk (Kd.R_below (by (with_reducible repeat (first | apply Kd.R_alloc | apply Kd.R_drewN | apply Kd.R_drew)); exact HO_122013.out) hb); have n1_ := Aside0.mk (Kd.R_below (by (with_reducible repeat (first | apply Kd.R_alloc | apply Kd.R_drewN | apply Kd.R_drew)); exact HO_122014.out) hb); have n2_ := Aside0.mk (blk_below (g := gb121) (o := .cells #[.int .i64 t101, .int .i64 t102, .int .u64 t103, .int .u64 t104, .int .i64 t105, .int .u64 t106, .int .u64 t107, .int .i64 t108, .int .i64 t109, .bool t110, .int .u32 t111, .int .i64 t112, .bool t113, .slice Ao7 t114.length co7, .slice Ao8 t117.length co8] 55 (0, 0)) (by (with_reducible repeat (first | refine blk_drewN ?_ _ | refine blk_drew ?_ | refine blk_alloc ?_ _)); exact BK121.out) hb); have n3_ := Aside0.mk (below_step (by repeat (first | (with_reducible first | exact HB.out | apply below_alloc | apply pw_below_drewN | apply below_drew1 | refine below_set ?_ GE121.out) | exact HB.out)) hb); clear HO_122013; clear HO_122014; clear BK121; clear HB; have HO_122013 := n0_; have HO_122014 := n1_; have BK121 := n2_; have HB := n3_; clear n0_ n1_ n2_ n3_; (try clear hb); (try clear hb2); (try clear hk); (try clear hi)))
            go_ret
            exact ⟨by first | rfl | (simp [errW_none, errW_some] <;> rfl) | (simp [*, errW_none, errW_some] <;> rfl), by repeat (first | (with_reducible first | exact HB.out | apply below_alloc | apply pw_below_drewN | apply below_drew1 | refine below_set ?_ GE121.out) | exact HB.out)⟩
          · rw [if_neg c16] at H
            have c16b0 : (t120 == 0) = false := beq_eq_false_iff_ne.mpr c16
            have c16b1 : (t120 != 0) = true := bne_iff_ne.mpr c16
            obtain rfl := Option.some.inj H
            go_wp2_with (first | ((with_reducible refine gate_callee (f := 54) rfl ?_); refine goesL_ (some 29) rfl rfl Try.func54 (by kernel_rfl) rfl #[] rfl (by (try simp only [List.map_toArray, List.map_cons, List.map_nil]); first | done | rfl | (simp only [List.length_drop, List.length_take]; rfl)) ?_; (with_reducible refine (stockadelaw04_alive.calls  true _ A14.out).mono ?_); rintro e w18 ⟨rfl, hb⟩; refine ⟨_, rfl, ?_⟩; have n0_ := Aside0.mk (Kd.R_below (by (with_reducible repeat (first | apply Kd.R_alloc | apply Kd.R_drewN | apply Kd.R_drew)); exact HO_122013.out) hb); have n1_ := Aside0.mk (Kd.R_below (by (with_reducible repeat (first | apply Kd.R_alloc | apply Kd.R_drewN | apply Kd.R_drew)); exact HO_122014.out) hb); have n2_ := Aside0.mk (blk_below (g := gb121) (o := .cells #[.int .i64 t101, .int .i64 t102, .int .u64 t103, .int .u64 t104, .int .i64 t105, .int .u64 t106, .int .u64 t107, .int .i64 t108, .int .i64 t109, .bool t110, .int .u32 t111, .int .i64 t112, .bool t113, .slice Ao7 t114.length co7, .slice Ao8 t117.length co8] 55 (0, 0)) (by (with_reducible repeat (first | refine blk_drewN ?_ _ | refine blk_drew ?_ | refine blk_alloc ?_ _)); exact BK121.out) hb); have n3_ := Aside0.mk (below_step (by repeat (first | (with_reducible first | exact HB.out | apply below_alloc | apply pw_below_drewN | apply below_drew1 | refine below_set ?_ GE121.out) | exact HB.out)) hb); clear HO_122013; clear HO_122014; clear BK121; clear HB; have HO_122013 := n0_; have HO_122014 := n1_; have BK121 := n2_; have HB := n3_; clear n0_ n1_ n2_ n3_; (try clear hb); (try clear hb2); (try clear hk); (try clear hi)))
            go_ret
            exact ⟨by first | rfl | (simp [errW_none, errW_some] <;> rfl) | (simp [*, errW_none, errW_some] <;> rfl), by repeat (first | (with_reducible first | exact HB.out | apply below_alloc | apply pw_below_drewN | apply below_drew1 | refine below_set ?_ GE121.out) | exact HB.out)⟩
        · replace c15 := Bool.eq_false_iff.mpr c15
          subst c15
          have H1 : (some false) = some r := by rw [if_neg (show ¬ (false = true) by decide)] at H; exact H
          clear H
          have H := H1
          clear H1
          obtain rfl := Option.some.inj H
          go_wp2_with (first | ((with_reducible refine gate_callee (f := 54) rfl ?_); refine goesL_ (some 29) rfl rfl Try.func54 (by kernel_rfl) rfl #[] rfl (by (try simp only [List.map_toArray, List.map_cons, List.map_nil]); first | done | rfl | (simp only [List.length_drop, List.length_take]; rfl)) ?_; (with_reducible refine (stockadelaw04_alive.calls  false _ A14.out).mono ?_); rintro e w19 ⟨rfl, hb⟩; refine ⟨_, rfl, ?_⟩; have n0_ := Aside0.mk (Kd.R_below (by (with_reducible repeat (first | apply Kd.R_alloc | apply Kd.R_drewN | apply Kd.R_drew)); exact HO_122013.out) hb); have n1_ := Aside0.mk (Kd.R_below (by (with_reducible repeat (first | apply Kd.R_alloc | apply Kd.R_drewN | apply Kd.R_drew)); exact HO_122014.out) hb); have n2_ := Aside0.mk (blk_below (g := gb121) (o := .cells #[.int .i64 t101, .int .i64 t102, .int .u64 t103, .int .u64 t104, .int .i64 t105, .int .u64 t106, .int .u64 t107, .int .i64 t108, .int .i64 t109, .bool t110, .int .u32 t111, .int .i64 t112, .bool t113, .slice Ao7 t114.length co7, .slice Ao8 t117.length co8] 55 (0, 0)) (by (with_reducible repeat (first | refine blk_drewN ?_ _ | refine blk_drew ?_ | refine blk_alloc ?_ _)); exact BK121.out) hb); have n3_ := Aside0.mk (below_step (by repeat (first | (with_reducible first | exact HB.out | apply below_alloc | apply pw_below_drewN | apply below_drew1 | refine below_set ?_ GE121.out) | exact HB.out)) hb); clear HO_122013; clear HO_122014; clear BK121; clear HB; have HO_122013 := n0_; have HO_122014 := n1_; have BK121 := n2_; have HB := n3_; clear n0_ n1_ n2_ n3_; (try clear hb); (try clear hb2); (try clear hk); (try clear hi)))
          go_ret
          exact ⟨by first | rfl | (simp [errW_none, errW_some] <;> rfl) | (simp [*, errW_none, errW_some] <;> rfl), by repeat (first | (with_reducible first | exact HB.out | apply below_alloc | apply pw_below_drewN | apply below_drew1 | refine below_set ?_ GE121.out) | exact HB.out)⟩
      · replace c13 := Bool.eq_false_iff.mpr c13
        subst c13
        have H1 : (stockadelaw04_Ip6Same.l0 kj2 l0 t114 (t114.length : Int) 0 t101 t102 t103 t104 t105 t106 t107 t108 t109 t110 t111 t112 t113 t114 t117) = some r := by rw [if_neg (show ¬ (false = true) by decide)] at H; exact H
        clear H
        have H := H1
        clear H1
        have H' := Aside0.mk H
        clear H
        have hcz20_0 : wc.cell? ⟨gb121, 0, none⟩ = some (.int .i64 t101) := (blk_cell BK121.out 0).trans rfl
        have hcz20_1 : wc.cell? ⟨gb121, 1, none⟩ = some (.int .i64 t102) := (blk_cell BK121.out 1).trans rfl
        have hcz20_2 : wc.cell? ⟨gb121, 2, none⟩ = some (.int .u64 t103) := (blk_cell BK121.out 2).trans rfl
        have hcz20_3 : wc.cell? ⟨gb121, 3, none⟩ = some (.int .u64 t104) := (blk_cell BK121.out 3).trans rfl
        have hcz20_4 : wc.cell? ⟨gb121, 4, none⟩ = some (.int .i64 t105) := (blk_cell BK121.out 4).trans rfl
        have hcz20_5 : wc.cell? ⟨gb121, 5, none⟩ = some (.int .u64 t106) := (blk_cell BK121.out 5).trans rfl
        have hcz20_6 : wc.cell? ⟨gb121, 6, none⟩ = some (.int .u64 t107) := (blk_cell BK121.out 6).trans rfl
        have hcz20_7 : wc.cell? ⟨gb121, 7, none⟩ = some (.int .i64 t108) := (blk_cell BK121.out 7).trans rfl
        have hcz20_8 : wc.cell? ⟨gb121, 8, none⟩ = some (.int .i64 t109) := (blk_cell BK121.out 8).trans rfl
        have hcz20_9 : wc.cell? ⟨gb121, 9, none⟩ = some (.bool t110) := (blk_cell BK121.out 9).trans rfl
        have hcz20_10 : wc.cell? ⟨gb121, 10, none⟩ = some (.int .u32 t111) := (blk_cell BK121.out 10).trans rfl
        have hcz20_11 : wc.cell? ⟨gb121, 11, none⟩ = some (.int .i64 t112) := (blk_cell BK121.out 11).trans rfl
        have hcz20_12 : wc.cell? ⟨gb121, 12, none⟩ = some (.bool t113) := (blk_cell BK121.out 12).trans rfl
        have hcz20_13 : wc.cell? ⟨gb121, 13, none⟩ = some (.slice Ao7 t114.length co7) := (blk_cell BK121.out 13).trans rfl
        have hcz20_14 : wc.cell? ⟨gb121, 14, none⟩ = some (.slice Ao8 t117.length co8) := (blk_cell BK121.out 14).trans rfl
        have hfz20_0 := blk_frozen BK121.out 0
        have hfz20_1 := blk_frozen BK121.out 1
        have hfz20_2 := blk_frozen BK121.out 2
        have hfz20_3 := blk_frozen BK121.out 3
        have hfz20_4 := blk_frozen BK121.out 4
        have hfz20_5 := blk_frozen BK121.out 5
        have hfz20_6 := blk_frozen BK121.out 6
        have hfz20_7 := blk_frozen BK121.out 7
        have hfz20_8 := blk_frozen BK121.out 8
        have hfz20_9 := blk_frozen BK121.out 9
        have hfz20_10 := blk_frozen BK121.out 10
        have hfz20_11 := blk_frozen BK121.out 11
        have hfz20_12 := blk_frozen BK121.out 12
        have hfz20_13 := blk_frozen BK121.out 13
        have hfz20_14 := blk_frozen BK121.out 14
        go_wp2
        go_loopg [42] kj2 (fun kq v42 w' => ∃ (x42_2 : Int), v42 = .int .i64 x42_2 ∧ Aside0 (stockadelaw04_Ip6Same.l0 kq l0 t114 (t114.length : Int) x42_2 t101 t102 t103 t104 t105 t106 t107 t108 t109 t110 t111 t112 t113 t114 t117 = some r) ∧ Aside0 (kq ≤ kj2) ∧ Aside0 (Kd.R (Kd.int .i64) 3 w' w.heap.size (fun _ => True) (.slice Ao7 t114.length co7) t114) ∧ Aside0 (Kd.R (Kd.int .i64) 3 w' w.heap.size (fun _ => True) (.slice Ao7 t114.length co7) t114) ∧ Aside0 (Kd.R (Kd.int .u8) 5 w' w.heap.size (fun _ => True) (.slice Ao8 t117.length co8) t117) ∧ Aside0 (w'.heap[gb121]? = some (.cells #[.int .i64 t101, .int .i64 t102, .int .u64 t103, .int .u64 t104, .int .i64 t105, .int .u64 t106, .int .u64 t107, .int .i64 t108, .int .i64 t109, .bool t110, .int .u32 t111, .int .i64 t112, .bool t113, (.slice Ao7 t114.length co7), (.slice Ao8 t117.length co8)] 55 (0, 0))) ∧ Aside0 (Below w.heap.size w w'))
        case atStart => exact ⟨(0), (by first | rfl | (simp; done) | (simp [*]; done)), H', ⟨Nat.le_refl _⟩, ⟨by (with_reducible repeat (first | apply Kd.R_alloc | apply Kd.R_drewN | apply Kd.R_drew)); exact HO_122013.out⟩, ⟨by (with_reducible repeat (first | apply Kd.R_alloc | apply Kd.R_drewN | apply Kd.R_drew)); exact HO_122013.out⟩, ⟨by (with_reducible repeat (first | apply Kd.R_alloc | apply Kd.R_drewN | apply Kd.R_drew)); exact HO_122014.out⟩, ⟨by (with_reducible repeat (first | refine blk_drewN ?_ _ | refine blk_drew ?_ | refine blk_alloc ?_ _)); exact BK121.out⟩, ⟨by repeat (first | (with_reducible first | exact HB.out | apply below_alloc | apply pw_below_drewN | apply below_drew1 | refine below_set ?_ GE121.out) | exact HB.out)⟩⟩
        case round =>
          clear H'
          try clear c1
          try clear p2
          try clear c5
          try clear p6
          try clear c9
          try clear c9b0
          try clear c9b1
          try clear c10
          try clear c13
          try clear c15
          try clear c16
          try clear c16b0
          try clear c16b1
          try clear hcz11_0
          try clear hcz11_1
          try clear hcz11_10
          try clear hcz11_11
          try clear hcz11_12
          try clear hcz11_13
          try clear hcz11_14
          try clear hcz11_2
          try clear hcz11_3
          try clear hcz11_4
          try clear hcz11_5
          try clear hcz11_6
          try clear hcz11_7
          try clear hcz11_8
          try clear hcz11_9
          try clear hcz12_0
          try clear hcz12_1
          try clear hcz12_10
          try clear hcz12_11
          try clear hcz12_12
          try clear hcz12_13
          try clear hcz12_14
          try clear hcz12_2
          try clear hcz12_3
          try clear hcz12_4
          try clear hcz12_5
          try clear hcz12_6
          try clear hcz12_7
          try clear hcz12_8
          try clear hcz12_9
          try clear hcz20_0
          try clear hcz20_1
          try clear hcz20_10
          try clear hcz20_11
          try clear hcz20_12
          try clear hcz20_13
          try clear hcz20_14
          try clear hcz20_2
          try clear hcz20_3
          try clear hcz20_4
          try clear hcz20_5
          try clear hcz20_6
          try clear hcz20_7
          try clear hcz20_8
          try clear hcz20_9
          try clear hcz6_0
          try clear hcz6_1
          try clear hcz6_10
          try clear hcz6_11
          try clear hcz6_12
          try clear hcz6_13
          try clear hcz6_14
          try clear hcz6_2
          try clear hcz6_3
          try clear hcz6_4
          try clear hcz6_5
          try clear hcz6_6
          try clear hcz6_7
          try clear hcz6_8
          try clear hcz6_9
          try clear hfz11_0
          try clear hfz11_1
          try clear hfz11_10
          try clear hfz11_11
          try clear hfz11_12
          try clear hfz11_13
          try clear hfz11_14
          try clear hfz11_2
          try clear hfz11_3
          try clear hfz11_4
          try clear hfz11_5
          try clear hfz11_6
          try clear hfz11_7
          try clear hfz11_8
          try clear hfz11_9
          try clear hfz12_0
          try clear hfz12_1
          try clear hfz12_10
          try clear hfz12_11
          try clear hfz12_12
          try clear hfz12_13
          try clear hfz12_14
          try clear hfz12_2
          try clear hfz12_3
          try clear hfz12_4
          try clear hfz12_5
          try clear hfz12_6
          try clear hfz12_7
          try clear hfz12_8
          try clear hfz12_9
          try clear hfz20_0
          try clear hfz20_1
          try clear hfz20_10
          try clear hfz20_11
          try clear hfz20_12
          try clear hfz20_13
          try clear hfz20_14
          try clear hfz20_2
          try clear hfz20_3
          try clear hfz20_4
          try clear hfz20_5
          try clear hfz20_6
          try clear hfz20_7
          try clear hfz20_8
          try clear hfz20_9
          try clear hfz6_0
          try clear hfz6_1
          try clear hfz6_10
          try clear hfz6_11
          try clear hfz6_12
          try clear hfz6_13
          try clear hfz6_14
          try clear hfz6_2
          try clear hfz6_3
          try clear hfz6_4
          try clear hfz6_5
          try clear hfz6_6
          try clear hfz6_7
          try clear hfz6_8
          try clear hfz6_9
          try clear p2
          try clear p6
          obtain ⟨x42_2, rfl, HA, HK2, HO_40, HO_122013, HO_122014, BK121, HB⟩ := hrel
          cases gk with
          | zero => exact absurd HA.out (by simp [stockadelaw04_Ip6Same.l0])
          | succ k2 =>
            have H := HA.out
            clear HA
            simp only [stockadelaw04_Ip6Same.l0] at H
            by_cases c21 : x42_2 < (t114.length : Int)
            · rw [if_pos c21] at H
              have c21b0 : decide (x42_2 < (t114.length : Int)) = true := decide_eq_true c21
              clear c21
              by_cases c22 : 0 ≤ x42_2
              · rw [if_pos c22] at H
                have c22b0 : decide (0 ≤ x42_2) = true := decide_eq_true c22
                clear c22
                by_cases c23 : x42_2 < (t114.length : Int)
                · rw [if_pos c23] at H
                  have c23b0 : decide (x42_2 < (t114.length : Int)) = true := decide_eq_true c23
                  clear c23
                  by_cases c24 : (rd t114 x42_2) = 0
                  · rw [if_pos c24] at H
                    have c24b0 : ((rd t114 x42_2) == 0) = true := beq_iff_eq.mpr c24
                    have c24b1 : ((rd t114 x42_2) != 0) = false := bne_eq_false_iff_eq.mpr c24
                    clear c24
                    replace H := Option.bind_eq_some_iff.mp H
                    obtain ⟨t124, A250, H⟩ := H
                    replace H : (some t124) = some r := H
                    have A25 := Aside0.mk A250
                    clear A250
                    obtain rfl := Option.some.inj H
                    have p123 : 0 ≤ (x42_2 : Int) := of_decide_eq_true (by first | (with_reducible assumption) | assumption)
                    have q123 : x42_2 < (t114.length : Int) := of_decide_eq_true (by first | (with_reducible assumption) | assumption)
                    obtain ⟨ad123, e123, hx123_0⟩ := Kd.at_int (Kd.R_reads' HO_40.out).2.2 x42_2 p123 q123
                    cases e123
                    replace p123 := eq_true p123
                    replace q123 := eq_true q123
                    go_wp2_with (first | ((with_reducible refine gate_callee (f := 54) rfl ?_); refine goesL_ (some 52) rfl rfl Try.func54 (by kernel_rfl) rfl #[] rfl (by (try simp only [List.map_toArray, List.map_cons, List.map_nil]); first | done | rfl | (simp only [List.length_drop, List.length_take]; rfl)) ?_; (with_reducible refine (stockadelaw04_alive.calls  t124 _ A25.out).mono ?_); rintro e w26 ⟨rfl, hb⟩; refine ⟨_, rfl, ?_⟩; have n0_ := Aside0.mk (Kd.R_below (by (with_reducible repeat (first | apply Kd.R_alloc | apply Kd.R_drewN | apply Kd.R_drew)); exact HO_40.out) hb); have n1_ := Aside0.mk (Kd.R_below (by (with_reducible repeat (first | apply Kd.R_alloc | apply Kd.R_drewN | apply Kd.R_drew)); exact HO_122013.out) hb); have n2_ := Aside0.mk (Kd.R_below (by (with_reducible repeat (first | apply Kd.R_alloc | apply Kd.R_drewN | apply Kd.R_drew)); exact HO_122014.out) hb); have n3_ := Aside0.mk (blk_below (g := gb121) (o := .cells #[.int .i64 t101, .int .i64 t102, .int .u64 t103, .int .u64 t104, .int .i64 t105, .int .u64 t106, .int .u64 t107, .int .i64 t108, .int .i64 t109, .bool t110, .int .u32 t111, .int .i64 t112, .bool t113, .slice (some ad123) t114.length co7, .slice Ao8 t117.length co8] 55 (0, 0)) (by (with_reducible repeat (first | refine blk_drewN ?_ _ | refine blk_drew ?_ | refine blk_alloc ?_ _)); exact BK121.out) hb); have n4_ := Aside0.mk (below_step (by repeat (first | (with_reducible first | exact HB.out | apply below_alloc | apply pw_below_drewN | apply below_drew1 | refine below_set ?_ GE121.out) | exact HB.out)) hb); clear HO_40; clear HO_122013; clear HO_122014; clear BK121; clear HB; have HO_40 := n0_; have HO_122013 := n1_; have HO_122014 := n2_; have BK121 := n3_; have HB := n4_; clear n0_ n1_ n2_ n3_ n4_; (try clear hb); (try clear hb2); (try clear hk); (try clear hi)))
                    go_ret
                    exact ⟨by first | rfl | (simp [errW_none, errW_some] <;> rfl) | (simp [*, errW_none, errW_some] <;> rfl), by repeat (first | (with_reducible first | exact HB.out | apply below_alloc | apply pw_below_drewN | apply below_drew1 | refine below_set ?_ GE121.out) | exact HB.out)⟩
                  · rw [if_neg c24] at H
                    have c24b0 : ((rd t114 x42_2) == 0) = false := beq_eq_false_iff_ne.mpr c24
                    have c24b1 : ((rd t114 x42_2) != 0) = true := bne_iff_ne.mpr c24
                    by_cases c27 : (rd t114 x42_2) = 44
                    · rw [if_pos c27] at H
                      have c27b0 : ((rd t114 x42_2) == 44) = true := beq_iff_eq.mpr c27
                      have c27b1 : ((rd t114 x42_2) != 44) = false := bne_eq_false_iff_eq.mpr c27
                      clear c27
                      replace H := Option.bind_eq_some_iff.mp H
                      obtain ⟨t125, A280, H⟩ := H
                      replace H : (some t125) = some r := H
                      have A28 := Aside0.mk A280
                      clear A280
                      obtain rfl := Option.some.inj H
                      have p123 : 0 ≤ (x42_2 : Int) := of_decide_eq_true (by first | (with_reducible assumption) | assumption)
                      have q123 : x42_2 < (t114.length : Int) := of_decide_eq_true (by first | (with_reducible assumption) | assumption)
                      obtain ⟨ad123, e123, hx123_0⟩ := Kd.at_int (Kd.R_reads' HO_40.out).2.2 x42_2 p123 q123
                      cases e123
                      replace p123 := eq_true p123
                      replace q123 := eq_true q123
                      go_wp2_with (first | ((with_reducible refine gate_callee (f := 54) rfl ?_); refine goesL_ (some 52) rfl rfl Try.func54 (by kernel_rfl) rfl #[] rfl (by (try simp only [List.map_toArray, List.map_cons, List.map_nil]); first | done | rfl | (simp only [List.length_drop, List.length_take]; rfl)) ?_; (with_reducible refine (stockadelaw04_alive.calls  t125 _ A28.out).mono ?_); rintro e w29 ⟨rfl, hb⟩; refine ⟨_, rfl, ?_⟩; have n0_ := Aside0.mk (Kd.R_below (by (with_reducible repeat (first | apply Kd.R_alloc | apply Kd.R_drewN | apply Kd.R_drew)); exact HO_40.out) hb); have n1_ := Aside0.mk (Kd.R_below (by (with_reducible repeat (first | apply Kd.R_alloc | apply Kd.R_drewN | apply Kd.R_drew)); exact HO_122013.out) hb); have n2_ := Aside0.mk (Kd.R_below (by (with_reducible repeat (first | apply Kd.R_alloc | apply Kd.R_drewN | apply Kd.R_drew)); exact HO_122014.out) hb); have n3_ := Aside0.mk (blk_below (g := gb121) (o := .cells #[.int .i64 t101, .int .i64 t102, .int .u64 t103, .int .u64 t104, .int .i64 t105, .int .u64 t106, .int .u64 t107, .int .i64 t108, .int .i64 t109, .bool t110, .int .u32 t111, .int .i64 t112, .bool t113, .slice (some ad123) t114.length co7, .slice Ao8 t117.length co8] 55 (0, 0)) (by (with_reducible repeat (first | refine blk_drewN ?_ _ | refine blk_drew ?_ | refine blk_alloc ?_ _)); exact BK121.out) hb); have n4_ := Aside0.mk (below_step (by repeat (first | (with_reducible first | exact HB.out | apply below_alloc | apply pw_below_drewN | apply below_drew1 | refine below_set ?_ GE121.out) | exact HB.out)) hb); clear HO_40; clear HO_122013; clear HO_122014; clear BK121; clear HB; have HO_40 := n0_; have HO_122013 := n1_; have HO_122014 := n2_; have BK121 := n3_; have HB := n4_; clear n0_ n1_ n2_ n3_ n4_; (try clear hb); (try clear hb2); (try clear hk); (try clear hi)))
                      go_ret
                      exact ⟨by first | rfl | (simp [errW_none, errW_some] <;> rfl) | (simp [*, errW_none, errW_some] <;> rfl), by repeat (first | (with_reducible first | exact HB.out | apply below_alloc | apply pw_below_drewN | apply below_drew1 | refine below_set ?_ GE121.out) | exact HB.out)⟩
                    · rw [if_neg c27] at H
                      have c27b0 : ((rd t114 x42_2) == 44) = false := beq_eq_false_iff_ne.mpr c27
                      have c27b1 : ((rd t114 x42_2) != 44) = true := bne_iff_ne.mpr c27
                      have H' := Aside0.mk H
                      clear H
                      have p123 : 0 ≤ (x42_2 : Int) := of_decide_eq_true (by first | (with_reducible assumption) | assumption)
                      have q123 : x42_2 < (t114.length : Int) := of_decide_eq_true (by first | (with_reducible assumption) | assumption)
                      obtain ⟨ad123, e123, hx123_0⟩ := Kd.at_int (Kd.R_reads' HO_40.out).2.2 x42_2 p123 q123
                      cases e123
                      replace p123 := eq_true p123
                      replace q123 := eq_true q123
                      go_wp2
                      go_roundg k2
                      case measure => have := HJ2.out; have := HK2.out; omega
                      case rel => exact ⟨(wrap64 (x42_2 + 1)), (by first | rfl | (simp; done) | (simp [*]; done)), H', ⟨by have := HJ2.out; have := HK2.out; omega⟩, ⟨by (with_reducible repeat (first | apply Kd.R_alloc | apply Kd.R_drewN | apply Kd.R_drew)); exact HO_40.out⟩, ⟨by (with_reducible repeat (first | apply Kd.R_alloc | apply Kd.R_drewN | apply Kd.R_drew)); exact HO_122013.out⟩, ⟨by (with_reducible repeat (first | apply Kd.R_alloc | apply Kd.R_drewN | apply Kd.R_drew)); exact HO_122014.out⟩, ⟨by (with_reducible repeat (first | refine blk_drewN ?_ _ | refine blk_drew ?_ | refine blk_alloc ?_ _)); exact BK121.out⟩, ⟨by repeat (first | (with_reducible first | exact HB.out | apply below_alloc | apply pw_below_drewN | apply below_drew1 | refine below_set ?_ GE121.out) | exact HB.out)⟩⟩
                · rw [if_neg c23] at H
                  exact absurd H (by simp)
              · rw [if_neg c22] at H
                exact absurd H (by simp)
            · rw [if_neg c21] at H
              have c21b0 : decide (x42_2 < (t114.length : Int)) = false := decide_eq_false c21
              clear c21
              replace H := Option.bind_eq_some_iff.mp H
              obtain ⟨⟨t126, t127⟩, A300, H⟩ := H
              replace H : (if t126 > (wrap64 ((l0.length : Int) - 40)) then (some false) else (if 6 < (l0.length : Int) then (if 40 ≤ (wrap64 (40 + t126)) then (if (wrap64 (40 + t126)) ≤ (l0.length : Int) then ((ip6_Walk.f (wrap64 (rd l0 6)) ((l0.take ((wrap64 (40 + t126)) : Int).toNat).drop 40)).bind fun bt130 => (if bt130.2.2.2 = 0 then (if bt130.1 = t108 then ((stockadelaw04_sameInts.f bt130.2.1 t114).bind fun t138 => (if t138 = true then ((stockaderef01_Same.f bt130.2.2.1 t117).bind fun t139 => (if t139 = true then ((stockadelaw04_alive.f).bind fun t140 => (some t140)) else (some false))) else (some false))) else (some false)) else (some false))) else (none)) else (none)) else (none))) = some r := H
              have A30 := Aside0.mk A300
              clear A300
              by_cases c31 : t126 > (wrap64 ((l0.length : Int) - 40))
              · rw [if_pos c31] at H
                have c31b0 : decide ((wrap64 ((l0.length : Int) - 40)) < t126) = true := decide_eq_true c31
                clear c31
                obtain rfl := Option.some.inj H
                go_wp2_with (first | ((with_reducible refine gate_callee (f := 63) rfl ?_); refine goesL_ (some 56) rfl rfl Try.func63 (by kernel_rfl) rfl #[.slice A0 l0.length c0, .int .i64 4] rfl (by (try simp only [List.map_toArray, List.map_cons, List.map_nil]); first | done | rfl | (simp only [List.length_drop, List.length_take]; rfl)) ?_; (with_reducible refine (stockaderef01_U16.calls _ _ l0 4 t126 t127 _ ?side1 ?side2 A30.out).mono ?_); (case side1 => repeat (first | exact (Kd.C_below HR0.out HB.out) | (with_reducible refine Kd.C_alloc ?_ _) | (with_reducible refine Kd.C_drewN ?_ _) | (with_reducible refine Kd.C_drew ?_))); (case side2 => exact HC0.out); rintro e w32 ⟨rfl, hb⟩; refine ⟨_, rfl, ?_⟩; have n0_ := Aside0.mk (Kd.R_below (by (with_reducible repeat (first | apply Kd.R_alloc | apply Kd.R_drewN | apply Kd.R_drew)); exact HO_40.out) hb); have n1_ := Aside0.mk (Kd.R_below (by (with_reducible repeat (first | apply Kd.R_alloc | apply Kd.R_drewN | apply Kd.R_drew)); exact HO_122013.out) hb); have n2_ := Aside0.mk (Kd.R_below (by (with_reducible repeat (first | apply Kd.R_alloc | apply Kd.R_drewN | apply Kd.R_drew)); exact HO_122014.out) hb); have n3_ := Aside0.mk (blk_below (g := gb121) (o := .cells #[.int .i64 t101, .int .i64 t102, .int .u64 t103, .int .u64 t104, .int .i64 t105, .int .u64 t106, .int .u64 t107, .int .i64 t108, .int .i64 t109, .bool t110, .int .u32 t111, .int .i64 t112, .bool t113, .slice Ao7 t114.length co7, .slice Ao8 t117.length co8] 55 (0, 0)) (by (with_reducible repeat (first | refine blk_drewN ?_ _ | refine blk_drew ?_ | refine blk_alloc ?_ _)); exact BK121.out) hb); have n4_ := Aside0.mk (below_step (by repeat (first | (with_reducible first | exact HB.out | apply below_alloc | apply pw_below_drewN | apply below_drew1 | refine below_set ?_ GE121.out) | exact HB.out)) hb); clear HO_40; clear HO_122013; clear HO_122014; clear BK121; clear HB; have HO_40 := n0_; have HO_122013 := n1_; have HO_122014 := n2_; have BK121 := n3_; have HB := n4_; clear n0_ n1_ n2_ n3_ n4_; (try clear hb); (try clear hb2); (try clear hk); (try clear hi)))
                go_ret
                exact ⟨by first | rfl | (simp [errW_none, errW_some] <;> rfl) | (simp [*, errW_none, errW_some] <;> rfl), by repeat (first | (with_reducible first | exact HB.out | apply below_alloc | apply pw_below_drewN | apply below_drew1 | refine below_set ?_ GE121.out) | exact HB.out)⟩
              · rw [if_neg c31] at H
                have c31b0 : decide ((wrap64 ((l0.length : Int) - 40)) < t126) = false := decide_eq_false c31
                clear c31
                by_cases c33 : 6 < (l0.length : Int)
                · rw [if_pos c33] at H
                  have c33b0 : decide (6 < (l0.length : Int)) = true := decide_eq_true c33
                  have c33b1 : decide (6 < l0.length) = true := decide_eq_true (by omega)
                  clear c33
                  by_cases c34 : 40 ≤ (wrap64 (40 + t126))
                  · rw [if_pos c34] at H
                    have c34b0 := eq_true c34
                    have c34b1 : decide (40 ≤ (wrap64 (40 + t126))) = true := decide_eq_true c34
                    by_cases c35 : (wrap64 (40 + t126)) ≤ (l0.length : Int)
                    · rw [if_pos c35] at H
                      have c35b0 := eq_true c35
                      have c35b1 : decide ((wrap64 (40 + t126)) ≤ (l0.length : Int)) = true := decide_eq_true c35
                      replace H := Option.bind_eq_some_iff.mp H
                      obtain ⟨⟨t130, t131, t132, t133⟩, A360, H⟩ := H
                      replace H : (if t133 = 0 then (if t130 = t108 then ((stockadelaw04_sameInts.f t131 t114).bind fun t138 => (if t138 = true then ((stockaderef01_Same.f t132 t117).bind fun t139 => (if t139 = true then ((stockadelaw04_alive.f).bind fun t140 => (some t140)) else (some false))) else (some false))) else (some false)) else (some false)) = some r := H
                      have A36 := Aside0.mk A360
                      clear A360
                      by_cases c37 : t133 = 0
                      · rw [if_pos c37] at H
                        have c37b0 : (t133 == 0) = true := beq_iff_eq.mpr c37
                        have c37b1 : (t133 != 0) = false := bne_eq_false_iff_eq.mpr c37
                        clear c37
                        by_cases c38 : t130 = t108
                        · rw [if_pos c38] at H
                          have c38b0 : (t130 == t108) = true := beq_iff_eq.mpr c38
                          have c38b1 : (t130 != t108) = false := bne_eq_false_iff_eq.mpr c38
                          clear c38
                          replace H := Option.bind_eq_some_iff.mp H
                          obtain ⟨t138, A390, H⟩ := H
                          replace H : (if t138 = true then ((stockaderef01_Same.f t132 t117).bind fun t139 => (if t139 = true then ((stockadelaw04_alive.f).bind fun t140 => (some t140)) else (some false))) else (some false)) = some r := H
                          have A39 := Aside0.mk A390
                          clear A390
                          by_cases c40 : t138 = true
                          · subst c40
                            have H1 : ((stockaderef01_Same.f t132 t117).bind fun t139 => (if t139 = true then ((stockadelaw04_alive.f).bind fun t140 => (some t140)) else (some false))) = some r := by rw [if_pos rfl] at H; exact H
                            clear H
                            have H := H1
                            clear H1
                            replace H := Option.bind_eq_some_iff.mp H
                            obtain ⟨t139, A410, H⟩ := H
                            replace H : (if t139 = true then ((stockadelaw04_alive.f).bind fun t140 => (some t140)) else (some false)) = some r := H
                            have A41 := Aside0.mk A410
                            clear A410
                            by_cases c42 : t139 = true
                            · subst c42
                              have H1 : ((stockadelaw04_alive.f).bind fun t140 => (some t140)) = some r := by rw [if_pos rfl] at H; exact H
                              clear H
                              have H := H1
                              clear H1
                              replace H := Option.bind_eq_some_iff.mp H
                              obtain ⟨t140, A430, H⟩ := H
                              replace H : (some t140) = some r := H
                              have A43 := Aside0.mk A430
                              clear A430
                              obtain rfl := Option.some.inj H
                              try go_wp2_with (first | ((with_reducible refine gate_callee (f := 63) rfl ?_); refine goesL_ (some 56) rfl rfl Try.func63 (by kernel_rfl) rfl #[.slice A0 l0.length c0, .int .i64 4] rfl (by (try simp only [List.map_toArray, List.map_cons, List.map_nil]); first | done | rfl | (simp only [List.length_drop, List.length_take]; rfl)) ?_; (with_reducible refine (stockaderef01_U16.calls _ _ l0 4 t126 t127 _ ?side1 ?side2 A30.out).mono ?_); (case side1 => repeat (first | exact (Kd.C_below HR0.out HB.out) | (with_reducible refine Kd.C_alloc ?_ _) | (with_reducible refine Kd.C_drewN ?_ _) | (with_reducible refine Kd.C_drew ?_))); (case side2 => exact HC0.out); rintro e w44 ⟨rfl, hb⟩; refine ⟨_, rfl, ?_⟩; have n0_ := Aside0.mk (Kd.R_below (by (with_reducible repeat (first | apply Kd.R_alloc | apply Kd.R_drewN | apply Kd.R_drew)); exact HO_40.out) hb); have n1_ := Aside0.mk (Kd.R_below (by (with_reducible repeat (first | apply Kd.R_alloc | apply Kd.R_drewN | apply Kd.R_drew)); exact HO_122013.out) hb); have n2_ := Aside0.mk (Kd.R_below (by (with_reducible repeat (first | apply Kd.R_alloc | apply Kd.R_drewN | apply Kd.R_drew)); exact HO_122014.out) hb); have n3_ := Aside0.mk (blk_below (g := gb121) (o := .cells #[.int .i64 t101, .int .i64 t102, .int .u64 t103, .int .u64 t104, .int .i64 t105, .int .u64 t106, .int .u64 t107, .int .i64 t108, .int .i64 t109, .bool t110, .int .u32 t111, .int .i64 t112, .bool t113, .slice Ao7 t114.length co7, .slice Ao8 t117.length co8] 55 (0, 0)) (by (with_reducible repeat (first | refine blk_drewN ?_ _ | refine blk_drew ?_ | refine blk_alloc ?_ _)); exact BK121.out) hb); have n4_ := Aside0.mk (below_step (by repeat (first | (with_reducible first | exact HB.out | apply below_alloc | apply pw_below_drewN | apply below_drew1 | refine below_set ?_ GE121.out) | exact HB.out)) hb); clear HO_40; clear HO_122013; clear HO_122014; clear BK121; clear HB; have HO_40 := n0_; have HO_122013 := n1_; have HO_122014 := n2_; have BK121 := n3_; have HB := n4_; clear n0_ n1_ n2_ n3_ n4_; (try clear hb); (try clear hb2); (try clear hk); (try clear hi)))
                              have n0_ := Aside0.mk (Kd.R_drew HO_40.out)
                              have n1_ := Aside0.mk (Kd.R_drew HO_122013.out)
                              have n2_ := Aside0.mk (Kd.R_drew HO_122014.out)
                              have n3_ := Aside0.mk (blk_drew BK121.out)
                              have n4_ := Aside0.mk (below_drew1 HB.out)
                              clear HO_40
                              clear HO_122013
                              clear HO_122014
                              clear BK121
                              clear HB
                              have HO_40 := n0_
                              have HO_122013 := n1_
                              have HO_122014 := n2_
                              have BK121 := n3_
                              have HB := n4_
                              clear n0_ n1_ n2_ n3_ n4_
                              have p128 : 0 ≤ (6 : Int) := (by omega)
                              have q128 : 6 < (l0.length : Int) := of_decide_eq_true (by first | (with_reducible assumption) | assumption)
                              obtain ⟨ad128, e128, hx128_0⟩ := Kd.at_int HR0.out 6 p128 q128
                              have hw128_0 := hx128_0
                              (try rw [show ((6 : Int)).toNat = 6 from rfl] at hw128_0)
                              (try rw [show 6 * 1 = 6 from rfl] at hw128_0)
                              (try simp only [Nat.reduceMul, Nat.reduceEqDiff, Go.Addr.add, ↓reduceIte] at hw128_0)
                              cases e128
                              (try simp only [show (6 : Int).toNat = 6 from rfl, Nat.reduceMul, Nat.reduceEqDiff, Go.Addr.add, ↓reduceIte] at hx128_0)
                              have qi128 : (6 < l0.length) = True := eq_true (by omega)
                              (try rw [show ((6 : Int)).toNat = 6 from rfl] at hx128_0)
                              replace hx128_0 := (HB.out.cell (World.block_lt_of_cell? w _ hx128_0)).trans hx128_0
                              replace p128 := eq_true p128
                              replace q128 := eq_true q128
                              obtain ⟨i046, hi046, _, hsz46, _⟩ := info_parts info5
                              obtain ⟨A46, hcut46, hA46, hC46⟩ := print_mid_of (P := Try.prog) (Value.int .u8) 0 27 5 .i64 .i64 Try.underlying27 hi046 hsz46 (some ad128) c0 l0 40 (wrap64 (40 + t126)) (by omega) (by first | omega | exact of_decide_eq_true (by first | (with_reducible assumption) | assumption)) (of_decide_eq_true (by first | (with_reducible assumption) | assumption)) HC0.out
                              have HR129 := Aside0.mk (Kd.C_of_reads (h1 := fun _ => rfl) (hA46 _ (Kd.reads_of_C HR0.out)))
                              have HC129 := Aside0.mk hC46
                              clear hA46 hC46 hi046 hsz46
                              refine start_ (n := 18) (S := fun w' => w'.cell? ⟨ad128.block, ad128.off + 6, none⟩ = some (.int .u8 (rd l0 6))) (ds := []) #[false, false, false, false, false, false, false, false, false, false, false, false, false, false, false, false, false, false] (by kernel_rfl) rfl rfl (((HB.out.cell (World.block_lt_of_cell? w _ hw128_0)).trans hw128_0)) (fun hHeld => ?_); refine with_tabW stockadelaw04_Ip6Same.tab13 stockadelaw04_Ip6Same.bits13 (fun HT_ HW_ => ?_)
                              generalize w44.drew = w45 at HO_40 HO_122013 HO_122014 BK121 HB HR129 hx128_0 hHeld ⊢
                              refine pure_ (i := 0) (N := some 65) (v := ?_) (a' := ?_) #[true, false, false, false, false, false, false, false, false, false, false, false, false, false, false, false, false, false] rfl rfl (any_of HT_.out (by kernel_rfl)) (fun _ _ _ h => h) (Or.inl ⟨by rfl, ?_⟩) ?_ ?_
                              rotate_left
                              · intro w'
                                go_simp
                                with_reducible rfl
                              rotate_left
                              · simp only [Act.put, List.setIfInBounds_toArray, List.set_cons_zero, List.set_cons_succ, i64_w, i32_w]
                                rfl
                              refine pure_ (i := 1) (N := some 66) (v := ?_) (a' := ?_) #[true, true, false, false, false, false, false, false, false, false, false, false, false, false, false, false, false, false] rfl rfl (any_of HT_.out (by kernel_rfl)) (fun _ _ _ h => h) (Or.inl ⟨by rfl, ?_⟩) ?_ ?_
                              rotate_left
                              · intro w'
                                go_simp
                                with_reducible rfl
                              rotate_left
                              · simp only [Act.put, List.setIfInBounds_toArray, List.set_cons_zero, List.set_cons_succ, i64_w, i32_w]
                                rfl
                              refine pure_ (i := 4) (N := some 69) (v := ?_) (a' := ?_) #[true, true, false, false, true, false, false, false, false, false, false, false, false, false, false, false, false, false] rfl rfl (any_of HT_.out (by kernel_rfl)) (fun _ _ _ h => h) (Or.inl ⟨by rfl, ?_⟩) ?_ ?_
                              rotate_left
                              · intro w'
                                go_simp
                                with_reducible rfl
                              rotate_left
                              · simp only [Act.put, List.setIfInBounds_toArray, List.set_cons_zero, List.set_cons_succ, i64_w, i32_w]
                                rfl
                              refine pure_ (i := 5) (N := some 70) (v := ?_) (a' := ?_) #[true, true, false, false, true, true, false, false, false, false, false, false, false, false, false, false, false, false] rfl rfl (any_of HT_.out (by kernel_rfl)) (fun _ _ _ h => h) (Or.inl ⟨by rfl, ?_⟩) ?_ ?_
                              rotate_left
                              · intro w'
                                go_simp
                                with_reducible rfl
                              rotate_left
                              · simp only [Act.put, List.setIfInBounds_toArray, List.set_cons_zero, List.set_cons_succ, i64_w, i32_w]
                                rfl
                              refine pure_ (i := 6) (N := some 71) (v := ?_) (a' := ?_) #[true, true, false, false, true, true, true, false, false, false, false, false, false, false, false, false, false, false] rfl rfl (any_of HT_.out (by kernel_rfl)) (fun _ _ _ h => h) (Or.inl ⟨by rfl, ?_⟩) ?_ ?_
                              rotate_left
                              · intro w'
                                go_simp
                                with_reducible rfl
                              rotate_left
                              · simp only [Act.put, List.setIfInBounds_toArray, List.set_cons_zero, List.set_cons_succ, i64_w, i32_w]
                                rfl
                              refine pure_ (i := 7) (N := some 72) (v := ?_) (a' := ?_) #[true, true, false, false, true, true, true, true, false, false, false, false, false, false, false, false, false, false] rfl rfl (any_of HT_.out (by kernel_rfl)) (fun _ _ _ h => h) (Or.inl ⟨by rfl, ?_⟩) ?_ ?_
                              rotate_left
                              · intro w'
                                go_simp
                                with_reducible rfl
                              rotate_left
                              · simp only [Act.put, List.setIfInBounds_toArray, List.set_cons_zero, List.set_cons_succ, i64_w, i32_w]
                                rfl
                              refine take_ (i := 2) (N := some 67) (v := ?_) (a' := ?_) #[true, true, true, false, true, true, true, true, false, false, false, false, false, false, false, false, false, false] rfl rfl (take_ofW HT_.out HW_.out (by kernel_rfl)) (fun _ _ _ h => h) (Or.inl ⟨by rfl, ?_⟩) hHeld ?_ ?_
                              rotate_left
                              · intro w' s0
                                go_simp
                                with_reducible rfl
                              rotate_left
                              · simp only [Act.put, List.setIfInBounds_toArray, List.set_cons_zero, List.set_cons_succ, i64_w, i32_w]
                                rfl
                              refine pure_ (i := 3) (N := some 68) (v := ?_) (a' := ?_) #[true, true, true, true, true, true, true, true, false, false, false, false, false, false, false, false, false, false] rfl rfl (any_of HT_.out (by kernel_rfl)) (fun _ _ _ h => h) (Or.inl ⟨by rfl, ?_⟩) ?_ ?_
                              rotate_left
                              · intro w'
                                go_simp
                                with_reducible rfl
                              rotate_left
                              · simp only [Act.put, List.setIfInBounds_toArray, List.set_cons_zero, List.set_cons_succ, i64_w, i32_w]
                                rfl
                              refine one_ (i := 8) (N := some 73) #[true, true, true, true, true, true, true, true, true, false, false, false, false, false, false, false, false, false] rfl rfl (one_of HT_.out (by kernel_rfl)) (by decide) (fun K hK => ?_)
                              refine goes_ Try.func51 (by kernel_rfl) rfl #[.int .i64 (wrap64 (rd l0 6)), .slice A46 ((l0.take ((wrap64 (40 + t126)) : Int).toNat).drop 40).length (c0 - 40)] (by rfl) rfl rfl (by (try simp only [List.map_toArray, List.map_cons, List.map_nil]); first | done | (rw [show ((l0.take ((wrap64 (40 + t126)) : Int).toNat).drop 40).length = ((wrap64 (40 + t126)).toNat - 40) from (by rw [List.length_drop, List.length_take]; have h_ : ((wrap64 (40 + t126)) : Int) ≤ (l0.length : Int) := of_decide_eq_true (by first | (with_reducible assumption) | assumption); omega)] <;> rfl) | rfl | (simp only [List.length_drop, List.length_take]; rfl)) ?_
                              with_reducible refine (ip6_Walk.calls (wrap64 (rd l0 6)) _ _ ((l0.take ((wrap64 (40 + t126)) : Int).toNat).drop 40) t130 t131 t132 t133 _ ?side1 ?side2 A36.out).mono ?_
                              (case side1 => repeat (first | exact (Kd.C_below HR129.out HB.out) | (with_reducible refine Kd.C_alloc ?_ _) | (with_reducible refine Kd.C_drewN ?_ _) | (with_reducible refine Kd.C_drew ?_)))
                              (case side2 => exact HC129.out)
                              rintro e w47 ⟨v134, v136, rfl, ho0, ho1, hb⟩
                              refine ⟨_, rfl, ?_⟩
                              have n0_ := Aside0.mk (Kd.R_elder' (by (with_reducible repeat (first | apply Kd.R_alloc | apply Kd.R_drewN | apply Kd.R_drew)); exact HO_40.out) (Kd.R_base ho0) hb)
                              have n1_ := Aside0.mk (Kd.R_elder' (by (with_reducible repeat (first | apply Kd.R_alloc | apply Kd.R_drewN | apply Kd.R_drew)); exact HO_122013.out) (Kd.R_base ho0) hb)
                              have n2_ := Aside0.mk (Kd.R_elder' (by (with_reducible repeat (first | apply Kd.R_alloc | apply Kd.R_drewN | apply Kd.R_drew)); exact HO_122014.out) (Kd.R_base ho1) hb)
                              have n3_ := Aside0.mk (Kd.R_lower (Kd.R_new' (Kd.R_new' ho0 (Kd.R_lt (by (with_reducible repeat (first | apply Kd.R_alloc | apply Kd.R_drewN | apply Kd.R_drew)); exact HO_40.out))) (Kd.R_lt (by (with_reducible repeat (first | apply Kd.R_alloc | apply Kd.R_drewN | apply Kd.R_drew)); exact HO_122013.out))) (below_size (by repeat (first | (with_reducible first | exact HB.out | apply below_alloc | apply pw_below_drewN | apply below_drew1 | refine below_set ?_ GE121.out) | exact HB.out))))
                              have n4_ := Aside0.mk (Kd.R_lower (Kd.R_new' ho1 (Kd.R_lt (by (with_reducible repeat (first | apply Kd.R_alloc | apply Kd.R_drewN | apply Kd.R_drew)); exact HO_122014.out))) (below_size (by repeat (first | (with_reducible first | exact HB.out | apply below_alloc | apply pw_below_drewN | apply below_drew1 | refine below_set ?_ GE121.out) | exact HB.out))))
                              have n5_ := Aside0.mk (blk_below (g := gb121) (o := .cells #[.int .i64 t101, .int .i64 t102, .int .u64 t103, .int .u64 t104, .int .i64 t105, .int .u64 t106, .int .u64 t107, .int .i64 t108, .int .i64 t109, .bool t110, .int .u32 t111, .int .i64 t112, .bool t113, .slice Ao7 t114.length co7, .slice Ao8 t117.length co8] 55 (0, 0)) (by (with_reducible repeat (first | refine blk_drewN ?_ _ | refine blk_drew ?_ | refine blk_alloc ?_ _)); exact BK121.out) hb)
                              have n6_ := Aside0.mk (below_step (by repeat (first | (with_reducible first | exact HB.out | apply below_alloc | apply pw_below_drewN | apply below_drew1 | refine below_set ?_ GE121.out) | exact HB.out)) hb)
                              clear HO_40
                              clear HO_122013
                              clear HO_122014
                              clear BK121
                              clear HB
                              have HO_40 := n0_
                              have HO_122013 := n1_
                              have HO_122014 := n2_
                              have HO135 := n3_
                              have HO137 := n4_
                              have BK121 := n5_
                              have HB := n6_
                              clear n0_ n1_ n2_ n3_ n4_ n5_ n6_
                              (try clear hb)
                              (try clear hb2)
                              (try clear hk)
                              (try clear hi)
                              (try clear ho0)
                              (try clear ho1)
                              refine hK.out _ _ (((HB.out.cell (World.block_lt_of_cell? w _ hw128_0)).trans hw128_0)) (fun hHeld => ?_)
                              clear hK K
                              refine norm_ (a' := ?_) ?_ ?_
                              rotate_left
                              · show Act.put _ (some 73) _ = _
                                simp only [Act.put, List.setIfInBounds_toArray, List.set_cons_zero, List.set_cons_succ, i64_w, i32_w]
                                rfl
                              refine pure_ (i := 9) (N := some 64) (v := ?_) (a' := ?_) #[true, true, true, true, true, true, true, true, true, true, false, false, false, false, false, false, false, false] rfl rfl (any_of HT_.out (by kernel_rfl)) (fun _ _ _ h => h) (Or.inl ⟨by rfl, ?_⟩) ?_ ?_
                              rotate_left
                              · intro w'
                                go_simp
                                with_reducible rfl
                              rotate_left
                              · simp only [Act.put, List.setIfInBounds_toArray, List.set_cons_zero, List.set_cons_succ, i64_w, i32_w]
                                rfl
                              refine pure_ (i := 10) (N := some 74) (v := ?_) (a' := ?_) #[true, true, true, true, true, true, true, true, true, true, true, false, false, false, false, false, false, false] rfl rfl (any_of HT_.out (by kernel_rfl)) (fun _ _ _ h => h) (Or.inl ⟨by rfl, ?_⟩) ?_ ?_
                              rotate_left
                              · intro w'
                                go_simp
                                with_reducible rfl
                              rotate_left
                              · simp only [Act.put, List.setIfInBounds_toArray, List.set_cons_zero, List.set_cons_succ, i64_w, i32_w]
                                rfl
                              refine pure_ (i := 11) (N := some 75) (v := ?_) (a' := ?_) #[true, true, true, true, true, true, true, true, true, true, true, true, false, false, false, false, false, false] rfl rfl (any_of HT_.out (by kernel_rfl)) (fun _ _ _ h => h) (Or.inl ⟨by rfl, ?_⟩) ?_ ?_
                              rotate_left
                              · intro w'
                                go_simp
                                with_reducible rfl
                              rotate_left
                              · simp only [Act.put, List.setIfInBounds_toArray, List.set_cons_zero, List.set_cons_succ, i64_w, i32_w]
                                rfl
                              refine pure_ (i := 12) (N := some 76) (v := ?_) (a' := ?_) #[true, true, true, true, true, true, true, true, true, true, true, true, true, false, false, false, false, false] rfl rfl (any_of HT_.out (by kernel_rfl)) (fun _ _ _ h => h) (Or.inl ⟨by rfl, ?_⟩) ?_ ?_
                              rotate_left
                              · intro w'
                                go_simp
                                with_reducible rfl
                              rotate_left
                              · simp only [Act.put, List.setIfInBounds_toArray, List.set_cons_zero, List.set_cons_succ, i64_w, i32_w]
                                rfl
                              refine pure_ (i := 13) (N := some 77) (v := ?_) (a' := ?_) #[true, true, true, true, true, true, true, true, true, true, true, true, true, true, false, false, false, false] rfl rfl (any_of HT_.out (by kernel_rfl)) (fun _ _ _ h => h) (Or.inl ⟨by rfl, ?_⟩) ?_ ?_
                              rotate_left
                              · intro w'
                                go_simp
                                with_reducible rfl
                              rotate_left
                              · simp only [Act.put, List.setIfInBounds_toArray, List.set_cons_zero, List.set_cons_succ, i64_w, i32_w]
                                rfl
                              refine pure_ (i := 14) (N := some 9) (v := ?_) (a' := ?_) #[true, true, true, true, true, true, true, true, true, true, true, true, true, true, true, false, false, false] rfl rfl (any_of HT_.out (by kernel_rfl)) (fun _ _ _ h => h) (Or.inl ⟨by rfl, ?_⟩) ?_ ?_
                              rotate_left
                              · intro w'
                                go_simp
                                with_reducible rfl
                              rotate_left
                              · simp only [Act.put, List.setIfInBounds_toArray, List.set_cons_zero, List.set_cons_succ, i64_w, i32_w]
                                rfl
                              refine pure_ (i := 15) (N := some 10) (v := ?_) (a' := ?_) #[true, true, true, true, true, true, true, true, true, true, true, true, true, true, true, true, false, false] rfl rfl (any_of HT_.out (by kernel_rfl)) (fun _ _ _ h => h) (Or.inl ⟨by rfl, ?_⟩) ?_ ?_
                              rotate_left
                              · intro w'
                                go_simp
                                with_reducible rfl
                              rotate_left
                              · simp only [Act.put, List.setIfInBounds_toArray, List.set_cons_zero, List.set_cons_succ, i64_w, i32_w]
                                rfl
                              refine pure_ (i := 16) (N := some 11) (v := ?_) (a' := ?_) #[true, true, true, true, true, true, true, true, true, true, true, true, true, true, true, true, true, false] rfl rfl (any_of HT_.out (by kernel_rfl)) (fun _ _ _ h => h) (Or.inl ⟨by rfl, ?_⟩) ?_ ?_
                              rotate_left
                              · intro w'
                                go_simp
                                with_reducible rfl
                              rotate_left
                              · simp only [Act.put, List.setIfInBounds_toArray, List.set_cons_zero, List.set_cons_succ, i64_w, i32_w]
                                rfl
                              refine pure_ (i := 17) (N := some 12) (v := ?_) (a' := ?_) #[true, true, true, true, true, true, true, true, true, true, true, true, true, true, true, true, true, true] rfl rfl (any_of HT_.out (by kernel_rfl)) (fun _ _ _ h => h) (Or.inl ⟨by rfl, ?_⟩) ?_ ?_
                              rotate_left
                              · intro w'
                                go_simp
                                with_reducible rfl
                              rotate_left
                              · simp only [Act.put, List.setIfInBounds_toArray, List.set_cons_zero, List.set_cons_succ, i64_w, i32_w]
                                rfl
                              refine done_ (done_of HT_.out (by kernel_rfl)) ?_
                              have hcz48_0 : w47.cell? ⟨gb121, 0, none⟩ = some (.int .i64 t101) := (blk_cell BK121.out 0).trans rfl
                              have hcz48_1 : w47.cell? ⟨gb121, 1, none⟩ = some (.int .i64 t102) := (blk_cell BK121.out 1).trans rfl
                              have hcz48_2 : w47.cell? ⟨gb121, 2, none⟩ = some (.int .u64 t103) := (blk_cell BK121.out 2).trans rfl
                              have hcz48_3 : w47.cell? ⟨gb121, 3, none⟩ = some (.int .u64 t104) := (blk_cell BK121.out 3).trans rfl
                              have hcz48_4 : w47.cell? ⟨gb121, 4, none⟩ = some (.int .i64 t105) := (blk_cell BK121.out 4).trans rfl
                              have hcz48_5 : w47.cell? ⟨gb121, 5, none⟩ = some (.int .u64 t106) := (blk_cell BK121.out 5).trans rfl
                              have hcz48_6 : w47.cell? ⟨gb121, 6, none⟩ = some (.int .u64 t107) := (blk_cell BK121.out 6).trans rfl
                              have hcz48_7 : w47.cell? ⟨gb121, 7, none⟩ = some (.int .i64 t108) := (blk_cell BK121.out 7).trans rfl
                              have hcz48_8 : w47.cell? ⟨gb121, 8, none⟩ = some (.int .i64 t109) := (blk_cell BK121.out 8).trans rfl
                              have hcz48_9 : w47.cell? ⟨gb121, 9, none⟩ = some (.bool t110) := (blk_cell BK121.out 9).trans rfl
                              have hcz48_10 : w47.cell? ⟨gb121, 10, none⟩ = some (.int .u32 t111) := (blk_cell BK121.out 10).trans rfl
                              have hcz48_11 : w47.cell? ⟨gb121, 11, none⟩ = some (.int .i64 t112) := (blk_cell BK121.out 11).trans rfl
                              have hcz48_12 : w47.cell? ⟨gb121, 12, none⟩ = some (.bool t113) := (blk_cell BK121.out 12).trans rfl
                              have hcz48_13 : w47.cell? ⟨gb121, 13, none⟩ = some (.slice Ao7 t114.length co7) := (blk_cell BK121.out 13).trans rfl
                              have hcz48_14 : w47.cell? ⟨gb121, 14, none⟩ = some (.slice Ao8 t117.length co8) := (blk_cell BK121.out 14).trans rfl
                              have hfz48_0 := blk_frozen BK121.out 0
                              have hfz48_1 := blk_frozen BK121.out 1
                              have hfz48_2 := blk_frozen BK121.out 2
                              have hfz48_3 := blk_frozen BK121.out 3
                              have hfz48_4 := blk_frozen BK121.out 4
                              have hfz48_5 := blk_frozen BK121.out 5
                              have hfz48_6 := blk_frozen BK121.out 6
                              have hfz48_7 := blk_frozen BK121.out 7
                              have hfz48_8 := blk_frozen BK121.out 8
                              have hfz48_9 := blk_frozen BK121.out 9
                              have hfz48_10 := blk_frozen BK121.out 10
                              have hfz48_11 := blk_frozen BK121.out 11
                              have hfz48_12 := blk_frozen BK121.out 12
                              have hfz48_13 := blk_frozen BK121.out 13
                              have hfz48_14 := blk_frozen BK121.out 14
                              obtain ⟨Ao49, co49, eo49⟩ := Kd.R_slice HO135.out
                              subst eo49
                              try go_wp2_with (first | (go_at_call 53; (with_reducible refine (stockadelaw04_sameInts.calls _ _ t131 _ _ t114 true _ ?side1 ?side2 ?side3 ?side4 A39.out).mono ?_); (case side1 => repeat (first | exact (Kd.R_reads' HO135.out).2.2 | (with_reducible refine Kd.C_alloc ?_ _) | (with_reducible refine Kd.C_drewN ?_ _) | (with_reducible refine Kd.C_drew ?_))); (case side2 => exact (Kd.R_reads' HO135.out).2.1); (case side3 => repeat (first | exact (Kd.R_reads' HO_122013.out).2.2 | (with_reducible refine Kd.C_alloc ?_ _) | (with_reducible refine Kd.C_drewN ?_ _) | (with_reducible refine Kd.C_drew ?_))); (case side4 => exact (Kd.R_reads' HO_122013.out).2.1); rintro e w50 ⟨rfl, hb⟩; have n0_ := Aside0.mk (Kd.R_below (by (with_reducible repeat (first | apply Kd.R_alloc | apply Kd.R_drewN | apply Kd.R_drew)); exact HO_40.out) hb); have n1_ := Aside0.mk (Kd.R_below (by (with_reducible repeat (first | apply Kd.R_alloc | apply Kd.R_drewN | apply Kd.R_drew)); exact HO_122013.out) hb); have n2_ := Aside0.mk (Kd.R_below (by (with_reducible repeat (first | apply Kd.R_alloc | apply Kd.R_drewN | apply Kd.R_drew)); exact HO_122014.out) hb); have n3_ := Aside0.mk (Kd.R_below (by (with_reducible repeat (first | apply Kd.R_alloc | apply Kd.R_drewN | apply Kd.R_drew)); exact HO135.out) hb); have n4_ := Aside0.mk (Kd.R_below (by (with_reducible repeat (first | apply Kd.R_alloc | apply Kd.R_drewN | apply Kd.R_drew)); exact HO137.out) hb); have n5_ := Aside0.mk (blk_below (g := gb121) (o := .cells #[.int .i64 t101, .int .i64 t102, .int .u64 t103, .int .u64 t104, .int .i64 t105, .int .u64 t106, .int .u64 t107, .int .i64 t108, .int .i64 t109, .bool t110, .int .u32 t111, .int .i64 t112, .bool t113, .slice Ao7 t114.length co7, .slice Ao8 t117.length co8] 55 (0, 0)) (by (with_reducible repeat (first | refine blk_drewN ?_ _ | refine blk_drew ?_ | refine blk_alloc ?_ _)); exact BK121.out) hb); have n6_ := Aside0.mk (below_step (by repeat (first | (with_reducible first | exact HB.out | apply below_alloc | apply pw_below_drewN | apply below_drew1 | refine below_set ?_ GE121.out) | exact HB.out)) hb); clear HO_40; clear HO_122013; clear HO_122014; clear HO135; clear HO137; clear BK121; clear HB; have HO_40 := n0_; have HO_122013 := n1_; have HO_122014 := n2_; have HO135 := n3_; have HO137 := n4_; have BK121 := n5_; have HB := n6_; clear n0_ n1_ n2_ n3_ n4_ n5_ n6_; (try clear hb); (try clear hb2); (try clear hk); (try clear hi); have hcz51_0 : w50.cell? ⟨gb121, 0, none⟩ = some (.int .i64 t101) := (blk_cell BK121.out 0).trans rfl; have hcz51_1 : w50.cell? ⟨gb121, 1, none⟩ = some (.int .i64 t102) := (blk_cell BK121.out 1).trans rfl; have hcz51_2 : w50.cell? ⟨gb121, 2, none⟩ = some (.int .u64 t103) := (blk_cell BK121.out 2).trans rfl; have hcz51_3 : w50.cell? ⟨gb121, 3, none⟩ = some (.int .u64 t104) := (blk_cell BK121.out 3).trans rfl; have hcz51_4 : w50.cell? ⟨gb121, 4, none⟩ = some (.int .i64 t105) := (blk_cell BK121.out 4).trans rfl; have hcz51_5 : w50.cell? ⟨gb121, 5, none⟩ = some (.int .u64 t106) := (blk_cell BK121.out 5).trans rfl; have hcz51_6 : w50.cell? ⟨gb121, 6, none⟩ = some (.int .u64 t107) := (blk_cell BK121.out 6).trans rfl; have hcz51_7 : w50.cell? ⟨gb121, 7, none⟩ = some (.int .i64 t108) := (blk_cell BK121.out 7).trans rfl; have hcz51_8 : w50.cell? ⟨gb121, 8, none⟩ = some (.int .i64 t109) := (blk_cell BK121.out 8).trans rfl; have hcz51_9 : w50.cell? ⟨gb121, 9, none⟩ = some (.bool t110) := (blk_cell BK121.out 9).trans rfl; have hcz51_10 : w50.cell? ⟨gb121, 10, none⟩ = some (.int .u32 t111) := (blk_cell BK121.out 10).trans rfl; have hcz51_11 : w50.cell? ⟨gb121, 11, none⟩ = some (.int .i64 t112) := (blk_cell BK121.out 11).trans rfl; have hcz51_12 : w50.cell? ⟨gb121, 12, none⟩ = some (.bool t113) := (blk_cell BK121.out 12).trans rfl; have hcz51_13 : w50.cell? ⟨gb121, 13, none⟩ = some (.slice Ao7 t114.length co7) := (blk_cell BK121.out 13).trans rfl; have hcz51_14 : w50.cell? ⟨gb121, 14, none⟩ = some (.slice Ao8 t117.length co8) := (blk_cell BK121.out 14).trans rfl; have hfz51_0 := blk_frozen BK121.out 0; have hfz51_1 := blk_frozen BK121.out 1; have hfz51_2 := blk_frozen BK121.out 2; have hfz51_3 := blk_frozen BK121.out 3; have hfz51_4 := blk_frozen BK121.out 4; have hfz51_5 := blk_frozen BK121.out 5; have hfz51_6 := blk_frozen BK121.out 6; have hfz51_7 := blk_frozen BK121.out 7; have hfz51_8 := blk_frozen BK121.out 8; have hfz51_9 := blk_frozen BK121.out 9; have hfz51_10 := blk_frozen BK121.out 10; have hfz51_11 := blk_frozen BK121.out 11; have hfz51_12 := blk_frozen BK121.out 12; have hfz51_13 := blk_frozen BK121.out 13; have hfz51_14 := blk_frozen BK121.out 14; obtain ⟨Ao52, co52, eo52⟩ := Kd.R_slice HO137.out; subst eo52) | (go_at_call 46; (with_reducible refine (stockaderef01_Same.calls _ _ t132 _ _ t117 true _ ?side1 ?side2 ?side3 ?side4 A41.out).mono ?_); (case side1 => repeat (first | exact (Kd.R_reads' HO137.out).2.2 | (with_reducible refine Kd.C_alloc ?_ _) | (with_reducible refine Kd.C_drewN ?_ _) | (with_reducible refine Kd.C_drew ?_))); (case side2 => exact (Kd.R_reads' HO137.out).2.1); (case side3 => repeat (first | exact (Kd.R_reads' HO_122014.out).2.2 | (with_reducible refine Kd.C_alloc ?_ _) | (with_reducible refine Kd.C_drewN ?_ _) | (with_reducible refine Kd.C_drew ?_))); (case side4 => exact (Kd.R_reads' HO_122014.out).2.1); rintro e w' ⟨rfl, ⟨nd, rfl⟩⟩) | (go_at_call 54; (with_reducible refine (stockadelaw04_alive.calls  t140 _ A43.out).mono ?_); rintro e w53 ⟨rfl, hb⟩; have n0_ := Aside0.mk (Kd.R_below (by (with_reducible repeat (first | apply Kd.R_alloc | apply Kd.R_drewN | apply Kd.R_drew)); exact HO_40.out) hb); have n1_ := Aside0.mk (Kd.R_below (by (with_reducible repeat (first | apply Kd.R_alloc | apply Kd.R_drewN | apply Kd.R_drew)); exact HO_122013.out) hb); have n2_ := Aside0.mk (Kd.R_below (by (with_reducible repeat (first | apply Kd.R_alloc | apply Kd.R_drewN | apply Kd.R_drew)); exact HO_122014.out) hb); have n3_ := Aside0.mk (Kd.R_below (by (with_reducible repeat (first | apply Kd.R_alloc | apply Kd.R_drewN | apply Kd.R_drew)); exact HO135.out) hb); have n4_ := Aside0.mk (Kd.R_below (by (with_reducible repeat (first | apply Kd.R_alloc | apply Kd.R_drewN | apply Kd.R_drew)); exact HO137.out) hb); have n5_ := Aside0.mk (blk_below (g := gb121) (o := .cells #[.int .i64 t101, .int .i64 t102, .int .u64 t103, .int .u64 t104, .int .i64 t105, .int .u64 t106, .int .u64 t107, .int .i64 t108, .int .i64 t109, .bool t110, .int .u32 t111, .int .i64 t112, .bool t113, .slice Ao7 t114.length co7, .slice Ao8 t117.length co8] 55 (0, 0)) (by (with_reducible repeat (first | refine blk_drewN ?_ _ | refine blk_drew ?_ | refine blk_alloc ?_ _)); exact BK121.out) hb); have n6_ := Aside0.mk (below_step (by repeat (first | (with_reducible first | exact HB.out | apply below_alloc | apply pw_below_drewN | apply below_drew1 | refine below_set ?_ GE121.out) | exact HB.out)) hb); clear HO_40; clear HO_122013; clear HO_122014; clear HO135; clear HO137; clear BK121; clear HB; have HO_40 := n0_; have HO_122013 := n1_; have HO_122014 := n2_; have HO135 := n3_; have HO137 := n4_; have BK121 := n5_; have HB := n6_; clear n0_ n1_ n2_ n3_ n4_ n5_ n6_; (try clear hb); (try clear hb2); (try clear hk); (try clear hi)))
                              go_ret
                              exact ⟨by first | rfl | (simp [errW_none, errW_some] <;> rfl) | (simp [*, errW_none, errW_some] <;> rfl), by repeat (first | (with_reducible first | exact HB.out | apply below_alloc | apply pw_below_drewN | apply below_drew1 | refine below_set ?_ GE121.out) | exact HB.out)⟩
                            · replace c42 := Bool.eq_false_iff.mpr c42
                              subst c42
                              have H1 : (some false) = some r := by rw [if_neg (show ¬ (false = true) by decide)] at H; exact H
                              clear H
                              have H := H1
                              clear H1
                              obtain rfl := Option.some.inj H
                              try go_wp2_with (first | ((with_reducible refine gate_callee (f := 63) rfl ?_); refine goesL_ (some 56) rfl rfl Try.func63 (by kernel_rfl) rfl #[.slice A0 l0.length c0, .int .i64 4] rfl (by (try simp only [List.map_toArray, List.map_cons, List.map_nil]); first | done | rfl | (simp only [List.length_drop, List.length_take]; rfl)) ?_; (with_reducible refine (stockaderef01_U16.calls _ _ l0 4 t126 t127 _ ?side1 ?side2 A30.out).mono ?_); (case side1 => repeat (first | exact (Kd.C_below HR0.out HB.out) | (with_reducible refine Kd.C_alloc ?_ _) | (with_reducible refine Kd.C_drewN ?_ _) | (with_reducible refine Kd.C_drew ?_))); (case side2 => exact HC0.out); rintro e w54 ⟨rfl, hb⟩; refine ⟨_, rfl, ?_⟩; have n0_ := Aside0.mk (Kd.R_below (by (with_reducible repeat (first | apply Kd.R_alloc | apply Kd.R_drewN | apply Kd.R_drew)); exact HO_40.out) hb); have n1_ := Aside0.mk (Kd.R_below (by (with_reducible repeat (first | apply Kd.R_alloc | apply Kd.R_drewN | apply Kd.R_drew)); exact HO_122013.out) hb); have n2_ := Aside0.mk (Kd.R_below (by (with_reducible repeat (first | apply Kd.R_alloc | apply Kd.R_drewN | apply Kd.R_drew)); exact HO_122014.out) hb); have n3_ := Aside0.mk (blk_below (g := gb121) (o := .cells #[.int .i64 t101, .int .i64 t102, .int .u64 t103, .int .u64 t104, .int .i64 t105, .int .u64 t106, .int .u64 t107, .int .i64 t108, .int .i64 t109, .bool t110, .int .u32 t111, .int .i64 t112, .bool t113, .slice Ao7 t114.length co7, .slice Ao8 t117.length co8] 55 (0, 0)) (by (with_reducible repeat (first | refine blk_drewN ?_ _ | refine blk_drew ?_ | refine blk_alloc ?_ _)); exact BK121.out) hb); have n4_ := Aside0.mk (below_step (by repeat (first | (with_reducible first | exact HB.out | apply below_alloc | apply pw_below_drewN | apply below_drew1 | refine below_set ?_ GE121.out) | exact HB.out)) hb); clear HO_40; clear HO_122013; clear HO_122014; clear BK121; clear HB; have HO_40 := n0_; have HO_122013 := n1_; have HO_122014 := n2_; have BK121 := n3_; have HB := n4_; clear n0_ n1_ n2_ n3_ n4_; (try clear hb); (try clear hb2); (try clear hk); (try clear hi)))
                              have n0_ := Aside0.mk (Kd.R_drew HO_40.out)
                              have n1_ := Aside0.mk (Kd.R_drew HO_122013.out)
                              have n2_ := Aside0.mk (Kd.R_drew HO_122014.out)
                              have n3_ := Aside0.mk (blk_drew BK121.out)
                              have n4_ := Aside0.mk (below_drew1 HB.out)
                              clear HO_40
                              clear HO_122013
                              clear HO_122014
                              clear BK121
                              clear HB
                              have HO_40 := n0_
                              have HO_122013 := n1_
                              have HO_122014 := n2_
                              have BK121 := n3_
                              have HB := n4_
                              clear n0_ n1_ n2_ n3_ n4_
                              have p128 : 0 ≤ (6 : Int) := (by omega)
                              have q128 : 6 < (l0.length : Int) := of_decide_eq_true (by first | (with_reducible assumption) | assumption)
                              obtain ⟨ad128, e128, hx128_0⟩ := Kd.at_int HR0.out 6 p128 q128
                              have hw128_0 := hx128_0
                              (try rw [show ((6 : Int)).toNat = 6 from rfl] at hw128_0)
                              (try rw [show 6 * 1 = 6 from rfl] at hw128_0)
                              (try simp only [Nat.reduceMul, Nat.reduceEqDiff, Go.Addr.add, ↓reduceIte] at hw128_0)
                              cases e128
                              (try simp only [show (6 : Int).toNat = 6 from rfl, Nat.reduceMul, Nat.reduceEqDiff, Go.Addr.add, ↓reduceIte] at hx128_0)
                              have qi128 : (6 < l0.length) = True := eq_true (by omega)
                              (try rw [show ((6 : Int)).toNat = 6 from rfl] at hx128_0)
                              replace hx128_0 := (HB.out.cell (World.block_lt_of_cell? w _ hx128_0)).trans hx128_0
                              replace p128 := eq_true p128
                              replace q128 := eq_true q128
                              obtain ⟨i056, hi056, _, hsz56, _⟩ := info_parts info5
                              obtain ⟨A56, hcut56, hA56, hC56⟩ := print_mid_of (P := Try.prog) (Value.int .u8) 0 27 5 .i64 .i64 Try.underlying27 hi056 hsz56 (some ad128) c0 l0 40 (wrap64 (40 + t126)) (by omega) (by first | omega | exact of_decide_eq_true (by first | (with_reducible assumption) | assumption)) (of_decide_eq_true (by first | (with_reducible assumption) | assumption)) HC0.out
                              have HR129 := Aside0.mk (Kd.C_of_reads (h1 := fun _ => rfl) (hA56 _ (Kd.reads_of_C HR0.out)))
                              have HC129 := Aside0.mk hC56
                              clear hA56 hC56 hi056 hsz56
                              refine start_ (n := 18) (S := fun w' => w'.cell? ⟨ad128.block, ad128.off + 6, none⟩ = some (.int .u8 (rd l0 6))) (ds := []) #[false, false, false, false, false, false, false, false, false, false, false, false, false, false, false, false, false, false] (by kernel_rfl) rfl rfl (((HB.out.cell (World.block_lt_of_cell? w _ hw128_0)).trans hw128_0)) (fun hHeld => ?_); refine with_tabW stockadelaw04_Ip6Same.tab13 stockadelaw04_Ip6Same.bits13 (fun HT_ HW_ => ?_)
                              generalize w54.drew = w55 at HO_40 HO_122013 HO_122014 BK121 HB HR129 hx128_0 hHeld ⊢
                              refine pure_ (i := 0) (N := some 65) (v := ?_) (a' := ?_) #[true, false, false, false, false, false, false, false, false, false, false, false, false, false, false, false, false, false] rfl rfl (any_of HT_.out (by kernel_rfl)) (fun _ _ _ h => h) (Or.inl ⟨by rfl, ?_⟩) ?_ ?_
                              rotate_left
                              · intro w'
                                go_simp
                                with_reducible rfl
                              rotate_left
                              · simp only [Act.put, List.setIfInBounds_toArray, List.set_cons_zero, List.set_cons_succ, i64_w, i32_w]
                                rfl
                              refine pure_ (i := 1) (N := some 66) (v := ?_) (a' := ?_) #[true, true, false, false, false, false, false, false, false, false, false, false, false, false, false, false, false, false] rfl rfl (any_of HT_.out (by kernel_rfl)) (fun _ _ _ h => h) (Or.inl ⟨by rfl, ?_⟩) ?_ ?_
                              rotate_left
                              · intro w'
                                go_simp
                                with_reducible rfl
                              rotate_left
                              · simp only [Act.put, List.setIfInBounds_toArray, List.set_cons_zero, List.set_cons_succ, i64_w, i32_w]
                                rfl
                              refine pure_ (i := 4) (N := some 69) (v := ?_) (a' := ?_) #[true, true, false, false, true, false, false, false, false, false, false, false, false, false, false, false, false, false] rfl rfl (any_of HT_.out (by kernel_rfl)) (fun _ _ _ h => h) (Or.inl ⟨by rfl, ?_⟩) ?_ ?_
                              rotate_left
                              · intro w'
                                go_simp
                                with_reducible rfl
                              rotate_left
                              · simp only [Act.put, List.setIfInBounds_toArray, List.set_cons_zero, List.set_cons_succ, i64_w, i32_w]
                                rfl
                              refine pure_ (i := 5) (N := some 70) (v := ?_) (a' := ?_) #[true, true, false, false, true, true, false, false, false, false, false, false, false, false, false, false, false, false] rfl rfl (any_of HT_.out (by kernel_rfl)) (fun _ _ _ h => h) (Or.inl ⟨by rfl, ?_⟩) ?_ ?_
                              rotate_left
                              · intro w'
                                go_simp
                                with_reducible rfl
                              rotate_left
                              · simp only [Act.put, List.setIfInBounds_toArray, List.set_cons_zero, List.set_cons_succ, i64_w, i32_w]
                                rfl
                              refine pure_ (i := 6) (N := some 71) (v := ?_) (a' := ?_) #[true, true, false, false, true, true, true, false, false, false, false, false, false, false, false, false, false, false] rfl rfl (any_of HT_.out (by kernel_rfl)) (fun _ _ _ h => h) (Or.inl ⟨by rfl, ?_⟩) ?_ ?_
                              rotate_left
                              · intro w'
                                go_simp
                                with_reducible rfl
                              rotate_left
                              · simp only [Act.put, List.setIfInBounds_toArray, List.set_cons_zero, List.set_cons_succ, i64_w, i32_w]
                                rfl
                              refine pure_ (i := 7) (N := some 72) (v := ?_) (a' := ?_) #[true, true, false, false, true, true, true, true, false, false, false, false, false, false, false, false, false, false] rfl rfl (any_of HT_.out (by kernel_rfl)) (fun _ _ _ h => h) (Or.inl ⟨by rfl, ?_⟩) ?_ ?_
                              rotate_left
                              · intro w'
                                go_simp
                                with_reducible rfl
                              rotate_left
                              · simp only [Act.put, List.setIfInBounds_toArray, List.set_cons_zero, List.set_cons_succ, i64_w, i32_w]
                                rfl
                              refine take_ (i := 2) (N := some 67) (v := ?_) (a' := ?_) #[true, true, true, false, true, true, true, true, false, false, false, false, false, false, false, false, false, false] rfl rfl (take_ofW HT_.out HW_.out (by kernel_rfl)) (fun _ _ _ h => h) (Or.inl ⟨by rfl, ?_⟩) hHeld ?_ ?_
                              rotate_left
                              · intro w' s0
                                go_simp
                                with_reducible rfl
                              rotate_left
                              · simp only [Act.put, List.setIfInBounds_toArray, List.set_cons_zero, List.set_cons_succ, i64_w, i32_w]
                                rfl
                              refine pure_ (i := 3) (N := some 68) (v := ?_) (a' := ?_) #[true, true, true, true, true, true, true, true, false, false, false, false, false, false, false, false, false, false] rfl rfl (any_of HT_.out (by kernel_rfl)) (fun _ _ _ h => h) (Or.inl ⟨by rfl, ?_⟩) ?_ ?_
                              rotate_left
                              · intro w'
                                go_simp
                                with_reducible rfl
                              rotate_left
                              · simp only [Act.put, List.setIfInBounds_toArray, List.set_cons_zero, List.set_cons_succ, i64_w, i32_w]
                                rfl
                              refine one_ (i := 8) (N := some 73) #[true, true, true, true, true, true, true, true, true, false, false, false, false, false, false, false, false, false] rfl rfl (one_of HT_.out (by kernel_rfl)) (by decide) (fun K hK => ?_)
                              refine goes_ Try.func51 (by kernel_rfl) rfl #[.int .i64 (wrap64 (rd l0 6)), .slice A56 ((l0.take ((wrap64 (40 + t126)) : Int).toNat).drop 40).length (c0 - 40)] (by rfl) rfl rfl (by (try simp only [List.map_toArray, List.map_cons, List.map_nil]); first | done | (rw [show ((l0.take ((wrap64 (40 + t126)) : Int).toNat).drop 40).length = ((wrap64 (40 + t126)).toNat - 40) from (by rw [List.length_drop, List.length_take]; have h_ : ((wrap64 (40 + t126)) : Int) ≤ (l0.length : Int) := of_decide_eq_true (by first | (with_reducible assumption) | assumption); omega)] <;> rfl) | rfl | (simp only [List.length_drop, List.length_take]; rfl)) ?_
                              with_reducible refine (ip6_Walk.calls (wrap64 (rd l0 6)) _ _ ((l0.take ((wrap64 (40 + t126)) : Int).toNat).drop 40) t130 t131 t132 t133 _ ?side1 ?side2 A36.out).mono ?_
                              (case side1 => repeat (first | exact (Kd.C_below HR129.out HB.out) | (with_reducible refine Kd.C_alloc ?_ _) | (with_reducible refine Kd.C_drewN ?_ _) | (with_reducible refine Kd.C_drew ?_)))
                              (case side2 => exact HC129.out)
                              rintro e w57 ⟨v134, v136, rfl, ho0, ho1, hb⟩
                              refine ⟨_, rfl, ?_⟩
                              have n0_ := Aside0.mk (Kd.R_elder' (by (with_reducible repeat (first | apply Kd.R_alloc | apply Kd.R_drewN | apply Kd.R_drew)); exact HO_40.out) (Kd.R_base ho0) hb)
                              have n1_ := Aside0.mk (Kd.R_elder' (by (with_reducible repeat (first | apply Kd.R_alloc | apply Kd.R_drewN | apply Kd.R_drew)); exact HO_122013.out) (Kd.R_base ho0) hb)
                              have n2_ := Aside0.mk (Kd.R_elder' (by (with_reducible repeat (first | apply Kd.R_alloc | apply Kd.R_drewN | apply Kd.R_drew)); exact HO_122014.out) (Kd.R_base ho1) hb)
                              have n3_ := Aside0.mk (Kd.R_lower (Kd.R_new' (Kd.R_new' ho0 (Kd.R_lt (by (with_reducible repeat (first | apply Kd.R_alloc | apply Kd.R_drewN | apply Kd.R_drew)); exact HO_40.out))) (Kd.R_lt (by (with_reducible repeat (first | apply Kd.R_alloc | apply Kd.R_drewN | apply Kd.R_drew)); exact HO_122013.out))) (below_size (by repeat (first | (with_reducible first | exact HB.out | apply below_alloc | apply pw_below_drewN | apply below_drew1 | refine below_set ?_ GE121.out) | exact HB.out))))
                              have n4_ := Aside0.mk (Kd.R_lower (Kd.R_new' ho1 (Kd.R_lt (by (with_reducible repeat (first | apply Kd.R_alloc | apply Kd.R_drewN | apply Kd.R_drew)); exact HO_122014.out))) (below_size (by repeat (first | (with_reducible first | exact HB.out | apply below_alloc | apply pw_below_drewN | apply below_drew1 | refine below_set ?_ GE121.out) | exact HB.out))))
                              have n5_ := Aside0.mk (blk_below (g := gb121) (o := .cells #[.int .i64 t101, .int .i64 t102, .int .u64 t103, .int .u64 t104, .int .i64 t105, .int .u64 t106, .int .u64 t107, .int .i64 t108, .int .i64 t109, .bool t110, .int .u32 t111, .int .i64 t112, .bool t113, .slice Ao7 t114.length co7, .slice Ao8 t117.length co8] 55 (0, 0)) (by (with_reducible repeat (first | refine blk_drewN ?_ _ | refine blk_drew ?_ | refine blk_alloc ?_ _)); exact BK121.out) hb)
                              have n6_ := Aside0.mk (below_step (by repeat (first | (with_reducible first | exact HB.out | apply below_alloc | apply pw_below_drewN | apply below_drew1 | refine below_set ?_ GE121.out) | exact HB.out)) hb)
                              clear HO_40
                              clear HO_122013
                              clear HO_122014
                              clear BK121
                              clear HB
                              have HO_40 := n0_
                              have HO_122013 := n1_
                              have HO_122014 := n2_
                              have HO135 := n3_
                              have HO137 := n4_
                              have BK121 := n5_
                              have HB := n6_
                              clear n0_ n1_ n2_ n3_ n4_ n5_ n6_
                              (try clear hb)
                              (try clear hb2)
                              (try clear hk)
                              (try clear hi)
                              (try clear ho0)
                              (try clear ho1)
                              refine hK.out _ _ (((HB.out.cell (World.block_lt_of_cell? w _ hw128_0)).trans hw128_0)) (fun hHeld => ?_)
                              clear hK K
                              refine norm_ (a' := ?_) ?_ ?_
                              rotate_left
                              · show Act.put _ (some 73) _ = _
                                simp only [Act.put, List.setIfInBounds_toArray, List.set_cons_zero, List.set_cons_succ, i64_w, i32_w]
                                rfl
                              refine pure_ (i := 9) (N := some 64) (v := ?_) (a' := ?_) #[true, true, true, true, true, true, true, true, true, true, false, false, false, false, false, false, false, false] rfl rfl (any_of HT_.out (by kernel_rfl)) (fun _ _ _ h => h) (Or.inl ⟨by rfl, ?_⟩) ?_ ?_
                              rotate_left
                              · intro w'
                                go_simp
                                with_reducible rfl
                              rotate_left
                              · simp only [Act.put, List.setIfInBounds_toArray, List.set_cons_zero, List.set_cons_succ, i64_w, i32_w]
                                rfl
                              refine pure_ (i := 10) (N := some 74) (v := ?_) (a' := ?_) #[true, true, true, true, true, true, true, true, true, true, true, false, false, false, false, false, false, false] rfl rfl (any_of HT_.out (by kernel_rfl)) (fun _ _ _ h => h) (Or.inl ⟨by rfl, ?_⟩) ?_ ?_
                              rotate_left
                              · intro w'
                                go_simp
                                with_reducible rfl
                              rotate_left
                              · simp only [Act.put, List.setIfInBounds_toArray, List.set_cons_zero, List.set_cons_succ, i64_w, i32_w]
                                rfl
                              refine pure_ (i := 11) (N := some 75) (v := ?_) (a' := ?_) #[true, true, true, true, true, true, true, true, true, true, true, true, false, false, false, false, false, false] rfl rfl (any_of HT_.out (by kernel_rfl)) (fun _ _ _ h => h) (Or.inl ⟨by rfl, ?_⟩) ?_ ?_
                              rotate_left
                              · intro w'
                                go_simp
                                with_reducible rfl
                              rotate_left
                              · simp only [Act.put, List.setIfInBounds_toArray, List.set_cons_zero, List.set_cons_succ, i64_w, i32_w]
                                rfl
                              refine pure_ (i := 12) (N := some 76) (v := ?_) (a' := ?_) #[true, true, true, true, true, true, true, true, true, true, true, true, true, false, false, false, false, false] rfl rfl (any_of HT_.out (by kernel_rfl)) (fun _ _ _ h => h) (Or.inl ⟨by rfl, ?_⟩) ?_ ?_
                              rotate_left
                              · intro w'
                                go_simp
                                with_reducible rfl
                              rotate_left
                              · simp only [Act.put, List.setIfInBounds_toArray, List.set_cons_zero, List.set_cons_succ, i64_w, i32_w]
                                rfl
                              refine pure_ (i := 13) (N := some 77) (v := ?_) (a' := ?_) #[true, true, true, true, true, true, true, true, true, true, true, true, true, true, false, false, false, false] rfl rfl (any_of HT_.out (by kernel_rfl)) (fun _ _ _ h => h) (Or.inl ⟨by rfl, ?_⟩) ?_ ?_
                              rotate_left
                              · intro w'
                                go_simp
                                with_reducible rfl
                              rotate_left
                              · simp only [Act.put, List.setIfInBounds_toArray, List.set_cons_zero, List.set_cons_succ, i64_w, i32_w]
                                rfl
                              refine pure_ (i := 14) (N := some 9) (v := ?_) (a' := ?_) #[true, true, true, true, true, true, true, true, true, true, true, true, true, true, true, false, false, false] rfl rfl (any_of HT_.out (by kernel_rfl)) (fun _ _ _ h => h) (Or.inl ⟨by rfl, ?_⟩) ?_ ?_
                              rotate_left
                              · intro w'
                                go_simp
                                with_reducible rfl
                              rotate_left
                              · simp only [Act.put, List.setIfInBounds_toArray, List.set_cons_zero, List.set_cons_succ, i64_w, i32_w]
                                rfl
                              refine pure_ (i := 15) (N := some 10) (v := ?_) (a' := ?_) #[true, true, true, true, true, true, true, true, true, true, true, true, true, true, true, true, false, false] rfl rfl (any_of HT_.out (by kernel_rfl)) (fun _ _ _ h => h) (Or.inl ⟨by rfl, ?_⟩) ?_ ?_
                              rotate_left
                              · intro w'
                                go_simp
                                with_reducible rfl
                              rotate_left
                              · simp only [Act.put, List.setIfInBounds_toArray, List.set_cons_zero, List.set_cons_succ, i64_w, i32_w]
                                rfl
                              refine pure_ (i := 16) (N := some 11) (v := ?_) (a' := ?_) #[true, true, true, true, true, true, true, true, true, true, true, true, true, true, true, true, true, false] rfl rfl (any_of HT_.out (by kernel_rfl)) (fun _ _ _ h => h) (Or.inl ⟨by rfl, ?_⟩) ?_ ?_
                              rotate_left
                              · intro w'
                                go_simp
                                with_reducible rfl
                              rotate_left
                              · simp only [Act.put, List.setIfInBounds_toArray, List.set_cons_zero, List.set_cons_succ, i64_w, i32_w]
                                rfl
                              refine pure_ (i := 17) (N := some 12) (v := ?_) (a' := ?_) #[true, true, true, true, true, true, true, true, true, true, true, true, true, true, true, true, true, true] rfl rfl (any_of HT_.out (by kernel_rfl)) (fun _ _ _ h => h) (Or.inl ⟨by rfl, ?_⟩) ?_ ?_
                              rotate_left
                              · intro w'
                                go_simp
                                with_reducible rfl
                              rotate_left
                              · simp only [Act.put, List.setIfInBounds_toArray, List.set_cons_zero, List.set_cons_succ, i64_w, i32_w]
                                rfl
                              refine done_ (done_of HT_.out (by kernel_rfl)) ?_
                              have hcz58_0 : w57.cell? ⟨gb121, 0, none⟩ = some (.int .i64 t101) := (blk_cell BK121.out 0).trans rfl
                              have hcz58_1 : w57.cell? ⟨gb121, 1, none⟩ = some (.int .i64 t102) := (blk_cell BK121.out 1).trans rfl
                              have hcz58_2 : w57.cell? ⟨gb121, 2, none⟩ = some (.int .u64 t103) := (blk_cell BK121.out 2).trans rfl
                              have hcz58_3 : w57.cell? ⟨gb121, 3, none⟩ = some (.int .u64 t104) := (blk_cell BK121.out 3).trans rfl
                              have hcz58_4 : w57.cell? ⟨gb121, 4, none⟩ = some (.int .i64 t105) := (blk_cell BK121.out 4).trans rfl
                              have hcz58_5 : w57.cell? ⟨gb121, 5, none⟩ = some (.int .u64 t106) := (blk_cell BK121.out 5).trans rfl
                              have hcz58_6 : w57.cell? ⟨gb121, 6, none⟩ = some (.int .u64 t107) := (blk_cell BK121.out 6).trans rfl
                              have hcz58_7 : w57.cell? ⟨gb121, 7, none⟩ = some (.int .i64 t108) := (blk_cell BK121.out 7).trans rfl
                              have hcz58_8 : w57.cell? ⟨gb121, 8, none⟩ = some (.int .i64 t109) := (blk_cell BK121.out 8).trans rfl
                              have hcz58_9 : w57.cell? ⟨gb121, 9, none⟩ = some (.bool t110) := (blk_cell BK121.out 9).trans rfl
                              have hcz58_10 : w57.cell? ⟨gb121, 10, none⟩ = some (.int .u32 t111) := (blk_cell BK121.out 10).trans rfl
                              have hcz58_11 : w57.cell? ⟨gb121, 11, none⟩ = some (.int .i64 t112) := (blk_cell BK121.out 11).trans rfl
                              have hcz58_12 : w57.cell? ⟨gb121, 12, none⟩ = some (.bool t113) := (blk_cell BK121.out 12).trans rfl
                              have hcz58_13 : w57.cell? ⟨gb121, 13, none⟩ = some (.slice Ao7 t114.length co7) := (blk_cell BK121.out 13).trans rfl
                              have hcz58_14 : w57.cell? ⟨gb121, 14, none⟩ = some (.slice Ao8 t117.length co8) := (blk_cell BK121.out 14).trans rfl
                              have hfz58_0 := blk_frozen BK121.out 0
                              have hfz58_1 := blk_frozen BK121.out 1
                              have hfz58_2 := blk_frozen BK121.out 2
                              have hfz58_3 := blk_frozen BK121.out 3
                              have hfz58_4 := blk_frozen BK121.out 4
                              have hfz58_5 := blk_frozen BK121.out 5
                              have hfz58_6 := blk_frozen BK121.out 6
                              have hfz58_7 := blk_frozen BK121.out 7
                              have hfz58_8 := blk_frozen BK121.out 8
                              have hfz58_9 := blk_frozen BK121.out 9
                              have hfz58_10 := blk_frozen BK121.out 10
                              have hfz58_11 := blk_frozen BK121.out 11
                              have hfz58_12 := blk_frozen BK121.out 12
                              have hfz58_13 := blk_frozen BK121.out 13
                              have hfz58_14 := blk_frozen BK121.out 14
                              obtain ⟨Ao59, co59, eo59⟩ := Kd.R_slice HO135.out
                              subst eo59
                              try go_wp2_with (first | (go_at_call 53; (with_reducible refine (stockadelaw04_sameInts.calls _ _ t131 _ _ t114 true _ ?side1 ?side2 ?side3 ?side4 A39.out).mono ?_); (case side1 => repeat (first | exact (Kd.R_reads' HO135.out).2.2 | (with_reducible refine Kd.C_alloc ?_ _) | (with_reducible refine Kd.C_drewN ?_ _) | (with_reducible refine Kd.C_drew ?_))); (case side2 => exact (Kd.R_reads' HO135.out).2.1); (case side3 => repeat (first | exact (Kd.R_reads' HO_122013.out).2.2 | (with_reducible refine Kd.C_alloc ?_ _) | (with_reducible refine Kd.C_drewN ?_ _) | (with_reducible refine Kd.C_drew ?_))); (case side4 => exact (Kd.R_reads' HO_122013.out).2.1); rintro e w60 ⟨rfl, hb⟩; have n0_ := Aside0.mk (Kd.R_below (by (with_reducible repeat (first | apply Kd.R_alloc | apply Kd.R_drewN | apply Kd.R_drew)); exact HO_40.out) hb); have n1_ := Aside0.mk (Kd.R_below (by (with_reducible repeat (first | apply Kd.R_alloc | apply Kd.R_drewN | apply Kd.R_drew)); exact HO_122013.out) hb); have n2_ := Aside0.mk (Kd.R_below (by (with_reducible repeat (first | apply Kd.R_alloc | apply Kd.R_drewN | apply Kd.R_drew)); exact HO_122014.out) hb); have n3_ := Aside0.mk (Kd.R_below (by (with_reducible repeat (first | apply Kd.R_alloc | apply Kd.R_drewN | apply Kd.R_drew)); exact HO135.out) hb); have n4_ := Aside0.mk (Kd.R_below (by (with_reducible repeat (first | apply Kd.R_alloc | apply Kd.R_drewN | apply Kd.R_drew)); exact HO137.out) hb); have n5_ := Aside0.mk (blk_below (g := gb121) (o := .cells #[.int .i64 t101, .int .i64 t102, .int .u64 t103, .int .u64 t104, .int .i64 t105, .int .u64 t106, .int .u64 t107, .int .i64 t108, .int .i64 t109, .bool t110, .int .u32 t111, .int .i64 t112, .bool t113, .slice Ao7 t114.length co7, .slice Ao8 t117.length co8] 55 (0, 0)) (by (with_reducible repeat (first | refine blk_drewN ?_ _ | refine blk_drew ?_ | refine blk_alloc ?_ _)); exact BK121.out) hb); have n6_ := Aside0.mk (below_step (by repeat (first | (with_reducible first | exact HB.out | apply below_alloc | apply pw_below_drewN | apply below_drew1 | refine below_set ?_ GE121.out) | exact HB.out)) hb); clear HO_40; clear HO_122013; clear HO_122014; clear HO135; clear HO137; clear BK121; clear HB; have HO_40 := n0_; have HO_122013 := n1_; have HO_122014 := n2_; have HO135 := n3_; have HO137 := n4_; have BK121 := n5_; have HB := n6_; clear n0_ n1_ n2_ n3_ n4_ n5_ n6_; (try clear hb); (try clear hb2); (try clear hk); (try clear hi); have hcz61_0 : w60.cell? ⟨gb121, 0, none⟩ = some (.int .i64 t101) := (blk_cell BK121.out 0).trans rfl; have hcz61_1 : w60.cell? ⟨gb121, 1, none⟩ = some (.int .i64 t102) := (blk_cell BK121.out 1).trans rfl; have hcz61_2 : w60.cell? ⟨gb121, 2, none⟩ = some (.int .u64 t103) := (blk_cell BK121.out 2).trans rfl; have hcz61_3 : w60.cell? ⟨gb121, 3, none⟩ = some (.int .u64 t104) := (blk_cell BK121.out 3).trans rfl; have hcz61_4 : w60.cell? ⟨gb121, 4, none⟩ = some (.int .i64 t105) := (blk_cell BK121.out 4).trans rfl; have hcz61_5 : w60.cell? ⟨gb121, 5, none⟩ = some (.int .u64 t106) := (blk_cell BK121.out 5).trans rfl; have hcz61_6 : w60.cell? ⟨gb121, 6, none⟩ = some (.int .u64 t107) := (blk_cell BK121.out 6).trans rfl; have hcz61_7 : w60.cell? ⟨gb121, 7, none⟩ = some (.int .i64 t108) := (blk_cell BK121.out 7).trans rfl; have hcz61_8 : w60.cell? ⟨gb121, 8, none⟩ = some (.int .i64 t109) := (blk_cell BK121.out 8).trans rfl; have hcz61_9 : w60.cell? ⟨gb121, 9, none⟩ = some (.bool t110) := (blk_cell BK121.out 9).trans rfl; have hcz61_10 : w60.cell? ⟨gb121, 10, none⟩ = some (.int .u32 t111) := (blk_cell BK121.out 10).trans rfl; have hcz61_11 : w60.cell? ⟨gb121, 11, none⟩ = some (.int .i64 t112) := (blk_cell BK121.out 11).trans rfl; have hcz61_12 : w60.cell? ⟨gb121, 12, none⟩ = some (.bool t113) := (blk_cell BK121.out 12).trans rfl; have hcz61_13 : w60.cell? ⟨gb121, 13, none⟩ = some (.slice Ao7 t114.length co7) := (blk_cell BK121.out 13).trans rfl; have hcz61_14 : w60.cell? ⟨gb121, 14, none⟩ = some (.slice Ao8 t117.length co8) := (blk_cell BK121.out 14).trans rfl; have hfz61_0 := blk_frozen BK121.out 0; have hfz61_1 := blk_frozen BK121.out 1; have hfz61_2 := blk_frozen BK121.out 2; have hfz61_3 := blk_frozen BK121.out 3; have hfz61_4 := blk_frozen BK121.out 4; have hfz61_5 := blk_frozen BK121.out 5; have hfz61_6 := blk_frozen BK121.out 6; have hfz61_7 := blk_frozen BK121.out 7; have hfz61_8 := blk_frozen BK121.out 8; have hfz61_9 := blk_frozen BK121.out 9; have hfz61_10 := blk_frozen BK121.out 10; have hfz61_11 := blk_frozen BK121.out 11; have hfz61_12 := blk_frozen BK121.out 12; have hfz61_13 := blk_frozen BK121.out 13; have hfz61_14 := blk_frozen BK121.out 14; obtain ⟨Ao62, co62, eo62⟩ := Kd.R_slice HO137.out; subst eo62) | (go_at_call 46; (with_reducible refine (stockaderef01_Same.calls _ _ t132 _ _ t117 false _ ?side1 ?side2 ?side3 ?side4 A41.out).mono ?_); (case side1 => repeat (first | exact (Kd.R_reads' HO137.out).2.2 | (with_reducible refine Kd.C_alloc ?_ _) | (with_reducible refine Kd.C_drewN ?_ _) | (with_reducible refine Kd.C_drew ?_))); (case side2 => exact (Kd.R_reads' HO137.out).2.1); (case side3 => repeat (first | exact (Kd.R_reads' HO_122014.out).2.2 | (with_reducible refine Kd.C_alloc ?_ _) | (with_reducible refine Kd.C_drewN ?_ _) | (with_reducible refine Kd.C_drew ?_))); (case side4 => exact (Kd.R_reads' HO_122014.out).2.1); rintro e w' ⟨rfl, ⟨nd, rfl⟩⟩))
                              go_ret
                              exact ⟨by first | rfl | (simp [errW_none, errW_some] <;> rfl) | (simp [*, errW_none, errW_some] <;> rfl), by repeat (first | (with_reducible first | exact HB.out | apply below_alloc | apply pw_below_drewN | apply below_drew1 | refine below_set ?_ GE121.out) | exact HB.out)⟩
                          · replace c40 := Bool.eq_false_iff.mpr c40
                            subst c40
                            have H1 : (some false) = some r := by rw [if_neg (show ¬ (false = true) by decide)] at H; exact H
                            clear H
                            have H := H1
                            clear H1
                            obtain rfl := Option.some.inj H
                            try go_wp2_with (first | ((with_reducible refine gate_callee (f := 63) rfl ?_); refine goesL_ (some 56) rfl rfl Try.func63 (by kernel_rfl) rfl #[.slice A0 l0.length c0, .int .i64 4] rfl (by (try simp only [List.map_toArray, List.map_cons, List.map_nil]); first | done | rfl | (simp only [List.length_drop, List.length_take]; rfl)) ?_; (with_reducible refine (stockaderef01_U16.calls _ _ l0 4 t126 t127 _ ?side1 ?side2 A30.out).mono ?_); (case side1 => repeat (first | exact (Kd.C_below HR0.out HB.out) | (with_reducible refine Kd.C_alloc ?_ _) | (with_reducible refine Kd.C_drewN ?_ _) | (with_reducible refine Kd.C_drew ?_))); (case side2 => exact HC0.out); rintro e w63 ⟨rfl, hb⟩; refine ⟨_, rfl, ?_⟩; have n0_ := Aside0.mk (Kd.R_below (by (with_reducible repeat (first | apply Kd.R_alloc | apply Kd.R_drewN | apply Kd.R_drew)); exact HO_40.out) hb); have n1_ := Aside0.mk (Kd.R_below (by (with_reducible repeat (first | apply Kd.R_alloc | apply Kd.R_drewN | apply Kd.R_drew)); exact HO_122013.out) hb); have n2_ := Aside0.mk (Kd.R_below (by (with_reducible repeat (first | apply Kd.R_alloc | apply Kd.R_drewN | apply Kd.R_drew)); exact HO_122014.out) hb); have n3_ := Aside0.mk (blk_below (g := gb121) (o := .cells #[.int .i64 t101, .int .i64 t102, .int .u64 t103, .int .u64 t104, .int .i64 t105, .int .u64 t106, .int .u64 t107, .int .i64 t108, .int .i64 t109, .bool t110, .int .u32 t111, .int .i64 t112, .bool t113, .slice Ao7 t114.length co7, .slice Ao8 t117.length co8] 55 (0, 0)) (by (with_reducible repeat (first | refine blk_drewN ?_ _ | refine blk_drew ?_ | refine blk_alloc ?_ _)); exact BK121.out) hb); have n4_ := Aside0.mk (below_step (by repeat (first | (with_reducible first | exact HB.out | apply below_alloc | apply pw_below_drewN | apply below_drew1 | refine below_set ?_ GE121.out) | exact HB.out)) hb); clear HO_40; clear HO_122013; clear HO_122014; clear BK121; clear HB; have HO_40 := n0_; have HO_122013 := n1_; have HO_122014 := n2_; have BK121 := n3_; have HB := n4_; clear n0_ n1_ n2_ n3_ n4_; (try clear hb); (try clear hb2); (try clear hk); (try clear hi)))
                            have n0_ := Aside0.mk (Kd.R_drew HO_40.out)
                            have n1_ := Aside0.mk (Kd.R_drew HO_122013.out)
                            have n2_ := Aside0.mk (Kd.R_drew HO_122014.out)
                            have n3_ := Aside0.mk (blk_drew BK121.out)
                            have n4_ := Aside0.mk (below_drew1 HB.out)
                            clear HO_40
                            clear HO_122013
                            clear HO_122014
                            clear BK121
                            clear HB
                            have HO_40 := n0_
                            have HO_122013 := n1_
                            have HO_122014 := n2_
                            have BK121 := n3_
                            have HB := n4_
                            clear n0_ n1_ n2_ n3_ n4_
                            have p128 : 0 ≤ (6 : Int) := (by omega)
                            have q128 : 6 < (l0.length : Int) := of_decide_eq_true (by first | (with_reducible assumption) | assumption)
                            obtain ⟨ad128, e128, hx128_0⟩ := Kd.at_int HR0.out 6 p128 q128
                            have hw128_0 := hx128_0
                            (try rw [show ((6 : Int)).toNat = 6 from rfl] at hw128_0)
                            (try rw [show 6 * 1 = 6 from rfl] at hw128_0)
                            (try simp only [Nat.reduceMul, Nat.reduceEqDiff, Go.Addr.add, ↓reduceIte] at hw128_0)
                            cases e128
                            (try simp only [show (6 : Int).toNat = 6 from rfl, Nat.reduceMul, Nat.reduceEqDiff, Go.Addr.add, ↓reduceIte] at hx128_0)
                            have qi128 : (6 < l0.length) = True := eq_true (by omega)
                            (try rw [show ((6 : Int)).toNat = 6 from rfl] at hx128_0)
                            replace hx128_0 := (HB.out.cell (World.block_lt_of_cell? w _ hx128_0)).trans hx128_0
                            replace p128 := eq_true p128
                            replace q128 := eq_true q128
                            obtain ⟨i065, hi065, _, hsz65, _⟩ := info_parts info5
                            obtain ⟨A65, hcut65, hA65, hC65⟩ := print_mid_of (P := Try.prog) (Value.int .u8) 0 27 5 .i64 .i64 Try.underlying27 hi065 hsz65 (some ad128) c0 l0 40 (wrap64 (40 + t126)) (by omega) (by first | omega | exact of_decide_eq_true (by first | (with_reducible assumption) | assumption)) (of_decide_eq_true (by first | (with_reducible assumption) | assumption)) HC0.out
                            have HR129 := Aside0.mk (Kd.C_of_reads (h1 := fun _ => rfl) (hA65 _ (Kd.reads_of_C HR0.out)))
                            have HC129 := Aside0.mk hC65
                            clear hA65 hC65 hi065 hsz65
                            refine start_ (n := 18) (S := fun w' => w'.cell? ⟨ad128.block, ad128.off + 6, none⟩ = some (.int .u8 (rd l0 6))) (ds := []) #[false, false, false, false, false, false, false, false, false, false, false, false, false, false, false, false, false, false] (by kernel_rfl) rfl rfl (((HB.out.cell (World.block_lt_of_cell? w _ hw128_0)).trans hw128_0)) (fun hHeld => ?_); refine with_tabW stockadelaw04_Ip6Same.tab13 stockadelaw04_Ip6Same.bits13 (fun HT_ HW_ => ?_)
                            generalize w63.drew = w64 at HO_40 HO_122013 HO_122014 BK121 HB HR129 hx128_0 hHeld ⊢
                            refine pure_ (i := 0) (N := some 65) (v := ?_) (a' := ?_) #[true, false, false, false, false, false, false, false, false, false, false, false, false, false, false, false, false, false] rfl rfl (any_of HT_.out (by kernel_rfl)) (fun _ _ _ h => h) (Or.inl ⟨by rfl, ?_⟩) ?_ ?_
                            rotate_left
                            · intro w'
                              go_simp
                              with_reducible rfl
                            rotate_left
                            · simp only [Act.put, List.setIfInBounds_toArray, List.set_cons_zero, List.set_cons_succ, i64_w, i32_w]
                              rfl
                            refine pure_ (i := 1) (N := some 66) (v := ?_) (a' := ?_) #[true, true, false, false, false, false, false, false, false, false, false, false, false, false, false, false, false, false] rfl rfl (any_of HT_.out (by kernel_rfl)) (fun _ _ _ h => h) (Or.inl ⟨by rfl, ?_⟩) ?_ ?_
                            rotate_left
                            · intro w'
                              go_simp
                              with_reducible rfl
                            rotate_left
                            · simp only [Act.put, List.setIfInBounds_toArray, List.set_cons_zero, List.set_cons_succ, i64_w, i32_w]
                              rfl
                            refine pure_ (i := 4) (N := some 69) (v := ?_) (a' := ?_) #[true, true, false, false, true, false, false, false, false, false, false, false, false, false, false, false, false, false] rfl rfl (any_of HT_.out (by kernel_rfl)) (fun _ _ _ h => h) (Or.inl ⟨by rfl, ?_⟩) ?_ ?_
                            rotate_left
                            · intro w'
                              go_simp
                              with_reducible rfl
                            rotate_left
                            · simp only [Act.put, List.setIfInBounds_toArray, List.set_cons_zero, List.set_cons_succ, i64_w, i32_w]
                              rfl
                            refine pure_ (i := 5) (N := some 70) (v := ?_) (a' := ?_) #[true, true, false, false, true, true, false, false, false, false, false, false, false, false, false, false, false, false] rfl rfl (any_of HT_.out (by kernel_rfl)) (fun _ _ _ h => h) (Or.inl ⟨by rfl, ?_⟩) ?_ ?_
                            rotate_left
                            · intro w'
                              go_simp
                              with_reducible rfl
                            rotate_left
                            · simp only [Act.put, List.setIfInBounds_toArray, List.set_cons_zero, List.set_cons_succ, i64_w, i32_w]
                              rfl
                            refine pure_ (i := 6) (N := some 71) (v := ?_) (a' := ?_) #[true, true, false, false, true, true, true, false, false, false, false, false, false, false, false, false, false, false] rfl rfl (any_of HT_.out (by kernel_rfl)) (fun _ _ _ h => h) (Or.inl ⟨by rfl, ?_⟩) ?_ ?_
                            rotate_left
                            · intro w'
                              go_simp
                              with_reducible rfl
                            rotate_left
                            · simp only [Act.put, List.setIfInBounds_toArray, List.set_cons_zero, List.set_cons_succ, i64_w, i32_w]
                              rfl
                            refine pure_ (i := 7) (N := some 72) (v := ?_) (a' := ?_) #[true, true, false, false, true, true, true, true, false, false, false, false, false, false, false, false, false, false] rfl rfl (any_of HT_.out (by kernel_rfl)) (fun _ _ _ h => h) (Or.inl ⟨by rfl, ?_⟩) ?_ ?_
                            rotate_left
                            · intro w'
                              go_simp
                              with_reducible rfl
                            rotate_left
                            · simp only [Act.put, List.setIfInBounds_toArray, List.set_cons_zero, List.set_cons_succ, i64_w, i32_w]
                              rfl
                            refine take_ (i := 2) (N := some 67) (v := ?_) (a' := ?_) #[true, true, true, false, true, true, true, true, false, false, false, false, false, false, false, false, false, false] rfl rfl (take_ofW HT_.out HW_.out (by kernel_rfl)) (fun _ _ _ h => h) (Or.inl ⟨by rfl, ?_⟩) hHeld ?_ ?_
                            rotate_left
                            · intro w' s0
                              go_simp
                              with_reducible rfl
                            rotate_left
                            · simp only [Act.put, List.setIfInBounds_toArray, List.set_cons_zero, List.set_cons_succ, i64_w, i32_w]
                              rfl
                            refine pure_ (i := 3) (N := some 68) (v := ?_) (a' := ?_) #[true, true, true, true, true, true, true, true, false, false, false, false, false, false, false, false, false, false] rfl rfl (any_of HT_.out (by kernel_rfl)) (fun _ _ _ h => h) (Or.inl ⟨by rfl, ?_⟩) ?_ ?_
                            rotate_left
                            · intro w'
                              go_simp
                              with_reducible rfl
                            rotate_left
                            · simp only [Act.put, List.setIfInBounds_toArray, List.set_cons_zero, List.set_cons_succ, i64_w, i32_w]
                              rfl
                            refine one_ (i := 8) (N := some 73) #[true, true, true, true, true, true, true, true, true, false, false, false, false, false, false, false, false, false] rfl rfl (one_of HT_.out (by kernel_rfl)) (by decide) (fun K hK => ?_)
                            refine goes_ Try.func51 (by kernel_rfl) rfl #[.int .i64 (wrap64 (rd l0 6)), .slice A65 ((l0.take ((wrap64 (40 + t126)) : Int).toNat).drop 40).length (c0 - 40)] (by rfl) rfl rfl (by (try simp only [List.map_toArray, List.map_cons, List.map_nil]); first | done | (rw [show ((l0.take ((wrap64 (40 + t126)) : Int).toNat).drop 40).length = ((wrap64 (40 + t126)).toNat - 40) from (by rw [List.length_drop, List.length_take]; have h_ : ((wrap64 (40 + t126)) : Int) ≤ (l0.length : Int) := of_decide_eq_true (by first | (with_reducible assumption) | assumption); omega)] <;> rfl) | rfl | (simp only [List.length_drop, List.length_take]; rfl)) ?_
                            with_reducible refine (ip6_Walk.calls (wrap64 (rd l0 6)) _ _ ((l0.take ((wrap64 (40 + t126)) : Int).toNat).drop 40) t130 t131 t132 t133 _ ?side1 ?side2 A36.out).mono ?_
                            (case side1 => repeat (first | exact (Kd.C_below HR129.out HB.out) | (with_reducible refine Kd.C_alloc ?_ _) | (with_reducible refine Kd.C_drewN ?_ _) | (with_reducible refine Kd.C_drew ?_)))
                            (case side2 => exact HC129.out)
                            rintro e w66 ⟨v134, v136, rfl, ho0, ho1, hb⟩
                            refine ⟨_, rfl, ?_⟩
                            have n0_ := Aside0.mk (Kd.R_elder' (by (with_reducible repeat (first | apply Kd.R_alloc | apply Kd.R_drewN | apply Kd.R_drew)); exact HO_40.out) (Kd.R_base ho0) hb)
                            have n1_ := Aside0.mk (Kd.R_elder' (by (with_reducible repeat (first | apply Kd.R_alloc | apply Kd.R_drewN | apply Kd.R_drew)); exact HO_122013.out) (Kd.R_base ho0) hb)
                            have n2_ := Aside0.mk (Kd.R_elder' (by (with_reducible repeat (first | apply Kd.R_alloc | apply Kd.R_drewN | apply Kd.R_drew)); exact HO_122014.out) (Kd.R_base ho1) hb)
                            have n3_ := Aside0.mk (Kd.R_lower (Kd.R_new' (Kd.R_new' ho0 (Kd.R_lt (by (with_reducible repeat (first | apply Kd.R_alloc | apply Kd.R_drewN | apply Kd.R_drew)); exact HO_40.out))) (Kd.R_lt (by (with_reducible repeat (first | apply Kd.R_alloc | apply Kd.R_drewN | apply Kd.R_drew)); exact HO_122013.out))) (below_size (by repeat (first | (with_reducible first | exact HB.out | apply below_alloc | apply pw_below_drewN | apply below_drew1 | refine below_set ?_ GE121.out) | exact HB.out))))
                            have n4_ := Aside0.mk (Kd.R_lower (Kd.R_new' ho1 (Kd.R_lt (by (with_reducible repeat (first | apply Kd.R_alloc | apply Kd.R_drewN | apply Kd.R_drew)); exact HO_122014.out))) (below_size (by repeat (first | (with_reducible first | exact HB.out | apply below_alloc | apply pw_below_drewN | apply below_drew1 | refine below_set ?_ GE121.out) | exact HB.out))))
                            have n5_ := Aside0.mk (blk_below (g := gb121) (o := .cells #[.int .i64 t101, .int .i64 t102, .int .u64 t103, .int .u64 t104, .int .i64 t105, .int .u64 t106, .int .u64 t107, .int .i64 t108, .int .i64 t109, .bool t110, .int .u32 t111, .int .i64 t112, .bool t113, .slice Ao7 t114.length co7, .slice Ao8 t117.length co8] 55 (0, 0)) (by (with_reducible repeat (first | refine blk_drewN ?_ _ | refine blk_drew ?_ | refine blk_alloc ?_ _)); exact BK121.out) hb)
                            have n6_ := Aside0.mk (below_step (by repeat (first | (with_reducible first | exact HB.out | apply below_alloc | apply pw_below_drewN | apply below_drew1 | refine below_set ?_ GE121.out) | exact HB.out)) hb)
                            clear HO_40
                            clear HO_122013
                            clear HO_122014
                            clear BK121
                            clear HB
                            have HO_40 := n0_
                            have HO_122013 := n1_
                            have HO_122014 := n2_
                            have HO135 := n3_
                            have HO137 := n4_
                            have BK121 := n5_
                            have HB := n6_
                            clear n0_ n1_ n2_ n3_ n4_ n5_ n6_
                            (try clear hb)
                            (try clear hb2)
                            (try clear hk)
                            (try clear hi)
                            (try clear ho0)
                            (try clear ho1)
                            refine hK.out _ _ (((HB.out.cell (World.block_lt_of_cell? w _ hw128_0)).trans hw128_0)) (fun hHeld => ?_)
                            clear hK K
                            refine norm_ (a' := ?_) ?_ ?_
                            rotate_left
                            · show Act.put _ (some 73) _ = _
                              simp only [Act.put, List.setIfInBounds_toArray, List.set_cons_zero, List.set_cons_succ, i64_w, i32_w]
                              rfl
                            refine pure_ (i := 9) (N := some 64) (v := ?_) (a' := ?_) #[true, true, true, true, true, true, true, true, true, true, false, false, false, false, false, false, false, false] rfl rfl (any_of HT_.out (by kernel_rfl)) (fun _ _ _ h => h) (Or.inl ⟨by rfl, ?_⟩) ?_ ?_
                            rotate_left
                            · intro w'
                              go_simp
                              with_reducible rfl
                            rotate_left
                            · simp only [Act.put, List.setIfInBounds_toArray, List.set_cons_zero, List.set_cons_succ, i64_w, i32_w]
                              rfl
                            refine pure_ (i := 10) (N := some 74) (v := ?_) (a' := ?_) #[true, true, true, true, true, true, true, true, true, true, true, false, false, false, false, false, false, false] rfl rfl (any_of HT_.out (by kernel_rfl)) (fun _ _ _ h => h) (Or.inl ⟨by rfl, ?_⟩) ?_ ?_
                            rotate_left
                            · intro w'
                              go_simp
                              with_reducible rfl
                            rotate_left
                            · simp only [Act.put, List.setIfInBounds_toArray, List.set_cons_zero, List.set_cons_succ, i64_w, i32_w]
                              rfl
                            refine pure_ (i := 11) (N := some 75) (v := ?_) (a' := ?_) #[true, true, true, true, true, true, true, true, true, true, true, true, false, false, false, false, false, false] rfl rfl (any_of HT_.out (by kernel_rfl)) (fun _ _ _ h => h) (Or.inl ⟨by rfl, ?_⟩) ?_ ?_
                            rotate_left
                            · intro w'
                              go_simp
                              with_reducible rfl
                            rotate_left
                            · simp only [Act.put, List.setIfInBounds_toArray, List.set_cons_zero, List.set_cons_succ, i64_w, i32_w]
                              rfl
                            refine pure_ (i := 12) (N := some 76) (v := ?_) (a' := ?_) #[true, true, true, true, true, true, true, true, true, true, true, true, true, false, false, false, false, false] rfl rfl (any_of HT_.out (by kernel_rfl)) (fun _ _ _ h => h) (Or.inl ⟨by rfl, ?_⟩) ?_ ?_
                            rotate_left
                            · intro w'
                              go_simp
                              with_reducible rfl
                            rotate_left
                            · simp only [Act.put, List.setIfInBounds_toArray, List.set_cons_zero, List.set_cons_succ, i64_w, i32_w]
                              rfl
                            refine pure_ (i := 13) (N := some 77) (v := ?_) (a' := ?_) #[true, true, true, true, true, true, true, true, true, true, true, true, true, true, false, false, false, false] rfl rfl (any_of HT_.out (by kernel_rfl)) (fun _ _ _ h => h) (Or.inl ⟨by rfl, ?_⟩) ?_ ?_
                            rotate_left
                            · intro w'
                              go_simp
                              with_reducible rfl
                            rotate_left
                            · simp only [Act.put, List.setIfInBounds_toArray, List.set_cons_zero, List.set_cons_succ, i64_w, i32_w]
                              rfl
                            refine pure_ (i := 14) (N := some 9) (v := ?_) (a' := ?_) #[true, true, true, true, true, true, true, true, true, true, true, true, true, true, true, false, false, false] rfl rfl (any_of HT_.out (by kernel_rfl)) (fun _ _ _ h => h) (Or.inl ⟨by rfl, ?_⟩) ?_ ?_
                            rotate_left
                            · intro w'
                              go_simp
                              with_reducible rfl
                            rotate_left
                            · simp only [Act.put, List.setIfInBounds_toArray, List.set_cons_zero, List.set_cons_succ, i64_w, i32_w]
                              rfl
                            refine pure_ (i := 15) (N := some 10) (v := ?_) (a' := ?_) #[true, true, true, true, true, true, true, true, true, true, true, true, true, true, true, true, false, false] rfl rfl (any_of HT_.out (by kernel_rfl)) (fun _ _ _ h => h) (Or.inl ⟨by rfl, ?_⟩) ?_ ?_
                            rotate_left
                            · intro w'
                              go_simp
                              with_reducible rfl
                            rotate_left
                            · simp only [Act.put, List.setIfInBounds_toArray, List.set_cons_zero, List.set_cons_succ, i64_w, i32_w]
                              rfl
                            refine pure_ (i := 16) (N := some 11) (v := ?_) (a' := ?_) #[true, true, true, true, true, true, true, true, true, true, true, true, true, true, true, true, true, false] rfl rfl (any_of HT_.out (by kernel_rfl)) (fun _ _ _ h => h) (Or.inl ⟨by rfl, ?_⟩) ?_ ?_
                            rotate_left
                            · intro w'
                              go_simp
                              with_reducible rfl
                            rotate_left
                            · simp only [Act.put, List.setIfInBounds_toArray, List.set_cons_zero, List.set_cons_succ, i64_w, i32_w]
                              rfl
                            refine pure_ (i := 17) (N := some 12) (v := ?_) (a' := ?_) #[true, true, true, true, true, true, true, true, true, true, true, true, true, true, true, true, true, true] rfl rfl (any_of HT_.out (by kernel_rfl)) (fun _ _ _ h => h) (Or.inl ⟨by rfl, ?_⟩) ?_ ?_
                            rotate_left
                            · intro w'
                              go_simp
                              with_reducible rfl
                            rotate_left
                            · simp only [Act.put, List.setIfInBounds_toArray, List.set_cons_zero, List.set_cons_succ, i64_w, i32_w]
                              rfl
                            refine done_ (done_of HT_.out (by kernel_rfl)) ?_
                            have hcz67_0 : w66.cell? ⟨gb121, 0, none⟩ = some (.int .i64 t101) := (blk_cell BK121.out 0).trans rfl
                            have hcz67_1 : w66.cell? ⟨gb121, 1, none⟩ = some (.int .i64 t102) := (blk_cell BK121.out 1).trans rfl
                            have hcz67_2 : w66.cell? ⟨gb121, 2, none⟩ = some (.int .u64 t103) := (blk_cell BK121.out 2).trans rfl
                            have hcz67_3 : w66.cell? ⟨gb121, 3, none⟩ = some (.int .u64 t104) := (blk_cell BK121.out 3).trans rfl
                            have hcz67_4 : w66.cell? ⟨gb121, 4, none⟩ = some (.int .i64 t105) := (blk_cell BK121.out 4).trans rfl
                            have hcz67_5 : w66.cell? ⟨gb121, 5, none⟩ = some (.int .u64 t106) := (blk_cell BK121.out 5).trans rfl
                            have hcz67_6 : w66.cell? ⟨gb121, 6, none⟩ = some (.int .u64 t107) := (blk_cell BK121.out 6).trans rfl
                            have hcz67_7 : w66.cell? ⟨gb121, 7, none⟩ = some (.int .i64 t108) := (blk_cell BK121.out 7).trans rfl
                            have hcz67_8 : w66.cell? ⟨gb121, 8, none⟩ = some (.int .i64 t109) := (blk_cell BK121.out 8).trans rfl
                            have hcz67_9 : w66.cell? ⟨gb121, 9, none⟩ = some (.bool t110) := (blk_cell BK121.out 9).trans rfl
                            have hcz67_10 : w66.cell? ⟨gb121, 10, none⟩ = some (.int .u32 t111) := (blk_cell BK121.out 10).trans rfl
                            have hcz67_11 : w66.cell? ⟨gb121, 11, none⟩ = some (.int .i64 t112) := (blk_cell BK121.out 11).trans rfl
                            have hcz67_12 : w66.cell? ⟨gb121, 12, none⟩ = some (.bool t113) := (blk_cell BK121.out 12).trans rfl
                            have hcz67_13 : w66.cell? ⟨gb121, 13, none⟩ = some (.slice Ao7 t114.length co7) := (blk_cell BK121.out 13).trans rfl
                            have hcz67_14 : w66.cell? ⟨gb121, 14, none⟩ = some (.slice Ao8 t117.length co8) := (blk_cell BK121.out 14).trans rfl
                            have hfz67_0 := blk_frozen BK121.out 0
                            have hfz67_1 := blk_frozen BK121.out 1
                            have hfz67_2 := blk_frozen BK121.out 2
                            have hfz67_3 := blk_frozen BK121.out 3
                            have hfz67_4 := blk_frozen BK121.out 4
                            have hfz67_5 := blk_frozen BK121.out 5
                            have hfz67_6 := blk_frozen BK121.out 6
                            have hfz67_7 := blk_frozen BK121.out 7
                            have hfz67_8 := blk_frozen BK121.out 8
                            have hfz67_9 := blk_frozen BK121.out 9
                            have hfz67_10 := blk_frozen BK121.out 10
                            have hfz67_11 := blk_frozen BK121.out 11
                            have hfz67_12 := blk_frozen BK121.out 12
                            have hfz67_13 := blk_frozen BK121.out 13
                            have hfz67_14 := blk_frozen BK121.out 14
                            obtain ⟨Ao68, co68, eo68⟩ := Kd.R_slice HO135.out
                            subst eo68
                            try go_wp2_with (first | (go_at_call 53; (with_reducible refine (stockadelaw04_sameInts.calls _ _ t131 _ _ t114 false _ ?side1 ?side2 ?side3 ?side4 A39.out).mono ?_); (case side1 => repeat (first | exact (Kd.R_reads' HO135.out).2.2 | (with_reducible refine Kd.C_alloc ?_ _) | (with_reducible refine Kd.C_drewN ?_ _) | (with_reducible refine Kd.C_drew ?_))); (case side2 => exact (Kd.R_reads' HO135.out).2.1); (case side3 => repeat (first | exact (Kd.R_reads' HO_122013.out).2.2 | (with_reducible refine Kd.C_alloc ?_ _) | (with_reducible refine Kd.C_drewN ?_ _) | (with_reducible refine Kd.C_drew ?_))); (case side4 => exact (Kd.R_reads' HO_122013.out).2.1); rintro e w69 ⟨rfl, hb⟩; have n0_ := Aside0.mk (Kd.R_below (by (with_reducible repeat (first | apply Kd.R_alloc | apply Kd.R_drewN | apply Kd.R_drew)); exact HO_40.out) hb); have n1_ := Aside0.mk (Kd.R_below (by (with_reducible repeat (first | apply Kd.R_alloc | apply Kd.R_drewN | apply Kd.R_drew)); exact HO_122013.out) hb); have n2_ := Aside0.mk (Kd.R_below (by (with_reducible repeat (first | apply Kd.R_alloc | apply Kd.R_drewN | apply Kd.R_drew)); exact HO_122014.out) hb); have n3_ := Aside0.mk (Kd.R_below (by (with_reducible repeat (first | apply Kd.R_alloc | apply Kd.R_drewN | apply Kd.R_drew)); exact HO135.out) hb); have n4_ := Aside0.mk (Kd.R_below (by (with_reducible repeat (first | apply Kd.R_alloc | apply Kd.R_drewN | apply Kd.R_drew)); exact HO137.out) hb); have n5_ := Aside0.mk (blk_below (g := gb121) (o := .cells #[.int .i64 t101, .int .i64 t102, .int .u64 t103, .int .u64 t104, .int .i64 t105, .int .u64 t106, .int .u64 t107, .int .i64 t108, .int .i64 t109, .bool t110, .int .u32 t111, .int .i64 t112, .bool t113, .slice Ao7 t114.length co7, .slice Ao8 t117.length co8] 55 (0, 0)) (by (with_reducible repeat (first | refine blk_drewN ?_ _ | refine blk_drew ?_ | refine blk_alloc ?_ _)); exact BK121.out) hb); have n6_ := Aside0.mk (below_step (by repeat (first | (with_reducible first | exact HB.out | apply below_alloc | apply pw_below_drewN | apply below_drew1 | refine below_set ?_ GE121.out) | exact HB.out)) hb); clear HO_40; clear HO_122013; clear HO_122014; clear HO135; clear HO137; clear BK121; clear HB; have HO_40 := n0_; have HO_122013 := n1_; have HO_122014 := n2_; have HO135 := n3_; have HO137 := n4_; have BK121 := n5_; have HB := n6_; clear n0_ n1_ n2_ n3_ n4_ n5_ n6_; (try clear hb); (try clear hb2); (try clear hk); (try clear hi)))
                            go_ret
                            exact ⟨by first | rfl | (simp [errW_none, errW_some] <;> rfl) | (simp [*, errW_none, errW_some] <;> rfl), by repeat (first | (with_reducible first | exact HB.out | apply below_alloc | apply pw_below_drewN | apply below_drew1 | refine below_set ?_ GE121.out) | exact HB.out)⟩
                        · rw [if_neg c38] at H
                          have c38b0 : (t130 == t108) = false := beq_eq_false_iff_ne.mpr c38
                          have c38b1 : (t130 != t108) = true := bne_iff_ne.mpr c38
                          obtain rfl := Option.some.inj H
                          try go_wp2_with (first | ((with_reducible refine gate_callee (f := 63) rfl ?_); refine goesL_ (some 56) rfl rfl Try.func63 (by kernel_rfl) rfl #[.slice A0 l0.length c0, .int .i64 4] rfl (by (try simp only [List.map_toArray, List.map_cons, List.map_nil]); first | done | rfl | (simp only [List.length_drop, List.length_take]; rfl)) ?_; (with_reducible refine (stockaderef01_U16.calls _ _ l0 4 t126 t127 _ ?side1 ?side2 A30.out).mono ?_); (case side1 => repeat (first | exact (Kd.C_below HR0.out HB.out) | (with_reducible refine Kd.C_alloc ?_ _) | (with_reducible refine Kd.C_drewN ?_ _) | (with_reducible refine Kd.C_drew ?_))); (case side2 => exact HC0.out); rintro e w70 ⟨rfl, hb⟩; refine ⟨_, rfl, ?_⟩; have n0_ := Aside0.mk (Kd.R_below (by (with_reducible repeat (first | apply Kd.R_alloc | apply Kd.R_drewN | apply Kd.R_drew)); exact HO_40.out) hb); have n1_ := Aside0.mk (Kd.R_below (by (with_reducible repeat (first | apply Kd.R_alloc | apply Kd.R_drewN | apply Kd.R_drew)); exact HO_122013.out) hb); have n2_ := Aside0.mk (Kd.R_below (by (with_reducible repeat (first | apply Kd.R_alloc | apply Kd.R_drewN | apply Kd.R_drew)); exact HO_122014.out) hb); have n3_ := Aside0.mk (blk_below (g := gb121) (o := .cells #[.int .i64 t101, .int .i64 t102, .int .u64 t103, .int .u64 t104, .int .i64 t105, .int .u64 t106, .int .u64 t107, .int .i64 t108, .int .i64 t109, .bool t110, .int .u32 t111, .int .i64 t112, .bool t113, .slice Ao7 t114.length co7, .slice Ao8 t117.length co8] 55 (0, 0)) (by (with_reducible repeat (first | refine blk_drewN ?_ _ | refine blk_drew ?_ | refine blk_alloc ?_ _)); exact BK121.out) hb); have n4_ := Aside0.mk (below_step (by repeat (first | (with_reducible first | exact HB.out | apply below_alloc | apply pw_below_drewN | apply below_drew1 | refine below_set ?_ GE121.out) | exact HB.out)) hb); clear HO_40; clear HO_122013; clear HO_122014; clear BK121; clear HB; have HO_40 := n0_; have HO_122013 := n1_; have HO_122014 := n2_; have BK121 := n3_; have HB := n4_; clear n0_ n1_ n2_ n3_ n4_; (try clear hb); (try clear hb2); (try clear hk); (try clear hi)))
                          have n0_ := Aside0.mk (Kd.R_drew HO_40.out)
                          have n1_ := Aside0.mk (Kd.R_drew HO_122013.out)
                          have n2_ := Aside0.mk (Kd.R_drew HO_122014.out)
                          have n3_ := Aside0.mk (blk_drew BK121.out)
                          have n4_ := Aside0.mk (below_drew1 HB.out)
                          clear HO_40
                          clear HO_122013
                          clear HO_122014
                          clear BK121
                          clear HB
                          have HO_40 := n0_
                          have HO_122013 := n1_
                          have HO_122014 := n2_
                          have BK121 := n3_
                          have HB := n4_
                          clear n0_ n1_ n2_ n3_ n4_
                          have p128 : 0 ≤ (6 : Int) := (by omega)
                          have q128 : 6 < (l0.length : Int) := of_decide_eq_true (by first | (with_reducible assumption) | assumption)
                          obtain ⟨ad128, e128, hx128_0⟩ := Kd.at_int HR0.out 6 p128 q128
                          have hw128_0 := hx128_0
                          (try rw [show ((6 : Int)).toNat = 6 from rfl] at hw128_0)
                          (try rw [show 6 * 1 = 6 from rfl] at hw128_0)
                          (try simp only [Nat.reduceMul, Nat.reduceEqDiff, Go.Addr.add, ↓reduceIte] at hw128_0)
                          cases e128
                          (try simp only [show (6 : Int).toNat = 6 from rfl, Nat.reduceMul, Nat.reduceEqDiff, Go.Addr.add, ↓reduceIte] at hx128_0)
                          have qi128 : (6 < l0.length) = True := eq_true (by omega)
                          (try rw [show ((6 : Int)).toNat = 6 from rfl] at hx128_0)
                          replace hx128_0 := (HB.out.cell (World.block_lt_of_cell? w _ hx128_0)).trans hx128_0
                          replace p128 := eq_true p128
                          replace q128 := eq_true q128
                          obtain ⟨i072, hi072, _, hsz72, _⟩ := info_parts info5
                          obtain ⟨A72, hcut72, hA72, hC72⟩ := print_mid_of (P := Try.prog) (Value.int .u8) 0 27 5 .i64 .i64 Try.underlying27 hi072 hsz72 (some ad128) c0 l0 40 (wrap64 (40 + t126)) (by omega) (by first | omega | exact of_decide_eq_true (by first | (with_reducible assumption) | assumption)) (of_decide_eq_true (by first | (with_reducible assumption) | assumption)) HC0.out
                          have HR129 := Aside0.mk (Kd.C_of_reads (h1 := fun _ => rfl) (hA72 _ (Kd.reads_of_C HR0.out)))
                          have HC129 := Aside0.mk hC72
                          clear hA72 hC72 hi072 hsz72
                          refine start_ (n := 18) (S := fun w' => w'.cell? ⟨ad128.block, ad128.off + 6, none⟩ = some (.int .u8 (rd l0 6))) (ds := []) #[false, false, false, false, false, false, false, false, false, false, false, false, false, false, false, false, false, false] (by kernel_rfl) rfl rfl (((HB.out.cell (World.block_lt_of_cell? w _ hw128_0)).trans hw128_0)) (fun hHeld => ?_); refine with_tabW stockadelaw04_Ip6Same.tab13 stockadelaw04_Ip6Same.bits13 (fun HT_ HW_ => ?_)
                          generalize w70.drew = w71 at HO_40 HO_122013 HO_122014 BK121 HB HR129 hx128_0 hHeld ⊢
                          refine pure_ (i := 0) (N := some 65) (v := ?_) (a' := ?_) #[true, false, false, false, false, false, false, false, false, false, false, false, false, false, false, false, false, false] rfl rfl (any_of HT_.out (by kernel_rfl)) (fun _ _ _ h => h) (Or.inl ⟨by rfl, ?_⟩) ?_ ?_
                          rotate_left
                          · intro w'
                            go_simp
                            with_reducible rfl
                          rotate_left
                          · simp only [Act.put, List.setIfInBounds_toArray, List.set_cons_zero, List.set_cons_succ, i64_w, i32_w]
                            rfl
                          refine pure_ (i := 1) (N := some 66) (v := ?_) (a' := ?_) #[true, true, false, false, false, false, false, false, false, false, false, false, false, false, false, false, false, false] rfl rfl (any_of HT_.out (by kernel_rfl)) (fun _ _ _ h => h) (Or.inl ⟨by rfl, ?_⟩) ?_ ?_
                          rotate_left
                          · intro w'
                            go_simp
                            with_reducible rfl
                          rotate_left
                          · simp only [Act.put, List.setIfInBounds_toArray, List.set_cons_zero, List.set_cons_succ, i64_w, i32_w]
                            rfl
                          refine pure_ (i := 4) (N := some 69) (v := ?_) (a' := ?_) #[true, true, false, false, true, false, false, false, false, false, false, false, false, false, false, false, false, false] rfl rfl (any_of HT_.out (by kernel_rfl)) (fun _ _ _ h => h) (Or.inl ⟨by rfl, ?_⟩) ?_ ?_
                          rotate_left
                          · intro w'
                            go_simp
                            with_reducible rfl
                          rotate_left
                          · simp only [Act.put, List.setIfInBounds_toArray, List.set_cons_zero, List.set_cons_succ, i64_w, i32_w]
                            rfl
                          refine pure_ (i := 5) (N := some 70) (v := ?_) (a' := ?_) #[true, true, false, false, true, true, false, false, false, false, false, false, false, false, false, false, false, false] rfl rfl (any_of HT_.out (by kernel_rfl)) (fun _ _ _ h => h) (Or.inl ⟨by rfl, ?_⟩) ?_ ?_
                          rotate_left
                          · intro w'
                            go_simp
                            with_reducible rfl
                          rotate_left
                          · simp only [Act.put, List.setIfInBounds_toArray, List.set_cons_zero, List.set_cons_succ, i64_w, i32_w]
                            rfl
                          refine pure_ (i := 6) (N := some 71) (v := ?_) (a' := ?_) #[true, true, false, false, true, true, true, false, false, false, false, false, false, false, false, false, false, false] rfl rfl (any_of HT_.out (by kernel_rfl)) (fun _ _ _ h => h) (Or.inl ⟨by rfl, ?_⟩) ?_ ?_
                          rotate_left
                          · intro w'
                            go_simp
                            with_reducible rfl
                          rotate_left
                          · simp only [Act.put, List.setIfInBounds_toArray, List.set_cons_zero, List.set_cons_succ, i64_w, i32_w]
                            rfl
                          refine pure_ (i := 7) (N := some 72) (v := ?_) (a' := ?_) #[true, true, false, false, true, true, true, true, false, false, false, false, false, false, false, false, false, false] rfl rfl (any_of HT_.out (by kernel_rfl)) (fun _ _ _ h => h) (Or.inl ⟨by rfl, ?_⟩) ?_ ?_
                          rotate_left
                          · intro w'
                            go_simp
                            with_reducible rfl
                          rotate_left
                          · simp only [Act.put, List.setIfInBounds_toArray, List.set_cons_zero, List.set_cons_succ, i64_w, i32_w]
                            rfl
                          refine take_ (i := 2) (N := some 67) (v := ?_) (a' := ?_) #[true, true, true, false, true, true, true, true, false, false, false, false, false, false, false, false, false, false] rfl rfl (take_ofW HT_.out HW_.out (by kernel_rfl)) (fun _ _ _ h => h) (Or.inl ⟨by rfl, ?_⟩) hHeld ?_ ?_
                          rotate_left
                          · intro w' s0
                            go_simp
                            with_reducible rfl
                          rotate_left
                          · simp only [Act.put, List.setIfInBounds_toArray, List.set_cons_zero, List.set_cons_succ, i64_w, i32_w]
                            rfl
                          refine pure_ (i := 3) (N := some 68) (v := ?_) (a' := ?_) #[true, true, true, true, true, true, true, true, false, false, false, false, false, false, false, false, false, false] rfl rfl (any_of HT_.out (by kernel_rfl)) (fun _ _ _ h => h) (Or.inl ⟨by rfl, ?_⟩) ?_ ?_
                          rotate_left
                          · intro w'
                            go_simp
                            with_reducible rfl
                          rotate_left
                          · simp only [Act.put, List.setIfInBounds_toArray, List.set_cons_zero, List.set_cons_succ, i64_w, i32_w]
                            rfl
                          refine one_ (i := 8) (N := some 73) #[true, true, true, true, true, true, true, true, true, false, false, false, false, false, false, false, false, false] rfl rfl (one_of HT_.out (by kernel_rfl)) (by decide) (fun K hK => ?_)
                          refine goes_ Try.func51 (by kernel_rfl) rfl #[.int .i64 (wrap64 (rd l0 6)), .slice A72 ((l0.take ((wrap64 (40 + t126)) : Int).toNat).drop 40).length (c0 - 40)] (by rfl) rfl rfl (by (try simp only [List.map_toArray, List.map_cons, List.map_nil]); first | done | (rw [show ((l0.take ((wrap64 (40 + t126)) : Int).toNat).drop 40).length = ((wrap64 (40 + t126)).toNat - 40) from (by rw [List.length_drop, List.length_take]; have h_ : ((wrap64 (40 + t126)) : Int) ≤ (l0.length : Int) := of_decide_eq_true (by first | (with_reducible assumption) | assumption); omega)] <;> rfl) | rfl | (simp only [List.length_drop, List.length_take]; rfl)) ?_
                          with_reducible refine (ip6_Walk.calls (wrap64 (rd l0 6)) _ _ ((l0.take ((wrap64 (40 + t126)) : Int).toNat).drop 40) t130 t131 t132 t133 _ ?side1 ?side2 A36.out).mono ?_
                          (case side1 => repeat (first | exact (Kd.C_below HR129.out HB.out) | (with_reducible refine Kd.C_alloc ?_ _) | (with_reducible refine Kd.C_drewN ?_ _) | (with_reducible refine Kd.C_drew ?_)))
                          (case side2 => exact HC129.out)
                          rintro e w73 ⟨v134, v136, rfl, ho0, ho1, hb⟩
                          refine ⟨_, rfl, ?_⟩
                          have n0_ := Aside0.mk (Kd.R_elder' (by (with_reducible repeat (first | apply Kd.R_alloc | apply Kd.R_drewN | apply Kd.R_drew)); exact HO_40.out) (Kd.R_base ho0) hb)
                          have n1_ := Aside0.mk (Kd.R_elder' (by (with_reducible repeat (first | apply Kd.R_alloc | apply Kd.R_drewN | apply Kd.R_drew)); exact HO_122013.out) (Kd.R_base ho0) hb)
                          have n2_ := Aside0.mk (Kd.R_elder' (by (with_reducible repeat (first | apply Kd.R_alloc | apply Kd.R_drewN | apply Kd.R_drew)); exact HO_122014.out) (Kd.R_base ho1) hb)
                          have n3_ := Aside0.mk (Kd.R_lower (Kd.R_new' (Kd.R_new' ho0 (Kd.R_lt (by (with_reducible repeat (first | apply Kd.R_alloc | apply Kd.R_drewN | apply Kd.R_drew)); exact HO_40.out))) (Kd.R_lt (by (with_reducible repeat (first | apply Kd.R_alloc | apply Kd.R_drewN | apply Kd.R_drew)); exact HO_122013.out))) (below_size (by repeat (first | (with_reducible first | exact HB.out | apply below_alloc | apply pw_below_drewN | apply below_drew1 | refine below_set ?_ GE121.out) | exact HB.out))))
                          have n4_ := Aside0.mk (Kd.R_lower (Kd.R_new' ho1 (Kd.R_lt (by (with_reducible repeat (first | apply Kd.R_alloc | apply Kd.R_drewN | apply Kd.R_drew)); exact HO_122014.out))) (below_size (by repeat (first | (with_reducible first | exact HB.out | apply below_alloc | apply pw_below_drewN | apply below_drew1 | refine below_set ?_ GE121.out) | exact HB.out))))
                          have n5_ := Aside0.mk (blk_below (g := gb121) (o := .cells #[.int .i64 t101, .int .i64 t102, .int .u64 t103, .int .u64 t104, .int .i64 t105, .int .u64 t106, .int .u64 t107, .int .i64 t108, .int .i64 t109, .bool t110, .int .u32 t111, .int .i64 t112, .bool t113, .slice Ao7 t114.length co7, .slice Ao8 t117.length co8] 55 (0, 0)) (by (with_reducible repeat (first | refine blk_drewN ?_ _ | refine blk_drew ?_ | refine blk_alloc ?_ _)); exact BK121.out) hb)
                          have n6_ := Aside0.mk (below_step (by repeat (first | (with_reducible first | exact HB.out | apply below_alloc | apply pw_below_drewN | apply below_drew1 | refine below_set ?_ GE121.out) | exact HB.out)) hb)
                          clear HO_40
                          clear HO_122013
                          clear HO_122014
                          clear BK121
                          clear HB
                          have HO_40 := n0_
                          have HO_122013 := n1_
                          have HO_122014 := n2_
                          have HO135 := n3_
                          have HO137 := n4_
                          have BK121 := n5_
                          have HB := n6_
                          clear n0_ n1_ n2_ n3_ n4_ n5_ n6_
                          (try clear hb)
                          (try clear hb2)
                          (try clear hk)
                          (try clear hi)
                          (try clear ho0)
                          (try clear ho1)
                          refine hK.out _ _ (((HB.out.cell (World.block_lt_of_cell? w _ hw128_0)).trans hw128_0)) (fun hHeld => ?_)
                          clear hK K
                          refine norm_ (a' := ?_) ?_ ?_
                          rotate_left
                          · show Act.put _ (some 73) _ = _
                            simp only [Act.put, List.setIfInBounds_toArray, List.set_cons_zero, List.set_cons_succ, i64_w, i32_w]
                            rfl
                          refine pure_ (i := 9) (N := some 64) (v := ?_) (a' := ?_) #[true, true, true, true, true, true, true, true, true, true, false, false, false, false, false, false, false, false] rfl rfl (any_of HT_.out (by kernel_rfl)) (fun _ _ _ h => h) (Or.inl ⟨by rfl, ?_⟩) ?_ ?_
                          rotate_left
                          · intro w'
                            go_simp
                            with_reducible rfl
                          rotate_left
                          · simp only [Act.put, List.setIfInBounds_toArray, List.set_cons_zero, List.set_cons_succ, i64_w, i32_w]
                            rfl
                          refine pure_ (i := 10) (N := some 74) (v := ?_) (a' := ?_) #[true, true, true, true, true, true, true, true, true, true, true, false, false, false, false, false, false, false] rfl rfl (any_of HT_.out (by kernel_rfl)) (fun _ _ _ h => h) (Or.inl ⟨by rfl, ?_⟩) ?_ ?_
                          rotate_left
                          · intro w'
                            go_simp
                            with_reducible rfl
                          rotate_left
                          · simp only [Act.put, List.setIfInBounds_toArray, List.set_cons_zero, List.set_cons_succ, i64_w, i32_w]
                            rfl
                          refine pure_ (i := 11) (N := some 75) (v := ?_) (a' := ?_) #[true, true, true, true, true, true, true, true, true, true, true, true, false, false, false, false, false, false] rfl rfl (any_of HT_.out (by kernel_rfl)) (fun _ _ _ h => h) (Or.inl ⟨by rfl, ?_⟩) ?_ ?_
                          rotate_left
                          · intro w'
                            go_simp
                            with_reducible rfl
                          rotate_left
                          · simp only [Act.put, List.setIfInBounds_toArray, List.set_cons_zero, List.set_cons_succ, i64_w, i32_w]
                            rfl
                          refine pure_ (i := 12) (N := some 76) (v := ?_) (a' := ?_) #[true, true, true, true, true, true, true, true, true, true, true, true, true, false, false, false, false, false] rfl rfl (any_of HT_.out (by kernel_rfl)) (fun _ _ _ h => h) (Or.inl ⟨by rfl, ?_⟩) ?_ ?_
                          rotate_left
                          · intro w'
                            go_simp
                            with_reducible rfl
                          rotate_left
                          · simp only [Act.put, List.setIfInBounds_toArray, List.set_cons_zero, List.set_cons_succ, i64_w, i32_w]
                            rfl
                          refine pure_ (i := 13) (N := some 77) (v := ?_) (a' := ?_) #[true, true, true, true, true, true, true, true, true, true, true, true, true, true, false, false, false, false] rfl rfl (any_of HT_.out (by kernel_rfl)) (fun _ _ _ h => h) (Or.inl ⟨by rfl, ?_⟩) ?_ ?_
                          rotate_left
                          · intro w'
                            go_simp
                            with_reducible rfl
                          rotate_left
                          · simp only [Act.put, List.setIfInBounds_toArray, List.set_cons_zero, List.set_cons_succ, i64_w, i32_w]
                            rfl
                          refine pure_ (i := 14) (N := some 9) (v := ?_) (a' := ?_) #[true, true, true, true, true, true, true, true, true, true, true, true, true, true, true, false, false, false] rfl rfl (any_of HT_.out (by kernel_rfl)) (fun _ _ _ h => h) (Or.inl ⟨by rfl, ?_⟩) ?_ ?_
                          rotate_left
                          · intro w'
                            go_simp
                            with_reducible rfl
                          rotate_left
                          · simp only [Act.put, List.setIfInBounds_toArray, List.set_cons_zero, List.set_cons_succ, i64_w, i32_w]
                            rfl
                          refine pure_ (i := 15) (N := some 10) (v := ?_) (a' := ?_) #[true, true, true, true, true, true, true, true, true, true, true, true, true, true, true, true, false, false] rfl rfl (any_of HT_.out (by kernel_rfl)) (fun _ _ _ h => h) (Or.inl ⟨by rfl, ?_⟩) ?_ ?_
                          rotate_left
                          · intro w'
                            go_simp
                            with_reducible rfl
                          rotate_left
                          · simp only [Act.put, List.setIfInBounds_toArray, List.set_cons_zero, List.set_cons_succ, i64_w, i32_w]
                            rfl
                          refine pure_ (i := 16) (N := some 11) (v := ?_) (a' := ?_) #[true, true, true, true, true, true, true, true, true, true, true, true, true, true, true, true, true, false] rfl rfl (any_of HT_.out (by kernel_rfl)) (fun _ _ _ h => h) (Or.inl ⟨by rfl, ?_⟩) ?_ ?_
                          rotate_left
                          · intro w'
                            go_simp
                            with_reducible rfl
                          rotate_left
                          · simp only [Act.put, List.setIfInBounds_toArray, List.set_cons_zero, List.set_cons_succ, i64_w, i32_w]
                            rfl
                          refine pure_ (i := 17) (N := some 12) (v := ?_) (a' := ?_) #[true, true, true, true, true, true, true, true, true, true, true, true, true, true, true, true, true, true] rfl rfl (any_of HT_.out (by kernel_rfl)) (fun _ _ _ h => h) (Or.inl ⟨by rfl, ?_⟩) ?_ ?_
                          rotate_left
                          · intro w'
                            go_simp
                            with_reducible rfl
                          rotate_left
                          · simp only [Act.put, List.setIfInBounds_toArray, List.set_cons_zero, List.set_cons_succ, i64_w, i32_w]
                            rfl
                          refine done_ (done_of HT_.out (by kernel_rfl)) ?_
                          have hcz74_0 : w73.cell? ⟨gb121, 0, none⟩ = some (.int .i64 t101) := (blk_cell BK121.out 0).trans rfl
                          have hcz74_1 : w73.cell? ⟨gb121, 1, none⟩ = some (.int .i64 t102) := (blk_cell BK121.out 1).trans rfl
                          have hcz74_2 : w73.cell? ⟨gb121, 2, none⟩ = some (.int .u64 t103) := (blk_cell BK121.out 2).trans rfl
                          have hcz74_3 : w73.cell? ⟨gb121, 3, none⟩ = some (.int .u64 t104) := (blk_cell BK121.out 3).trans rfl
                          have hcz74_4 : w73.cell? ⟨gb121, 4, none⟩ = some (.int .i64 t105) := (blk_cell BK121.out 4).trans rfl
                          have hcz74_5 : w73.cell? ⟨gb121, 5, none⟩ = some (.int .u64 t106) := (blk_cell BK121.out 5).trans rfl
                          have hcz74_6 : w73.cell? ⟨gb121, 6, none⟩ = some (.int .u64 t107) := (blk_cell BK121.out 6).trans rfl
                          have hcz74_7 : w73.cell? ⟨gb121, 7, none⟩ = some (.int .i64 t108) := (blk_cell BK121.out 7).trans rfl
                          have hcz74_8 : w73.cell? ⟨gb121, 8, none⟩ = some (.int .i64 t109) := (blk_cell BK121.out 8).trans rfl
                          have hcz74_9 : w73.cell? ⟨gb121, 9, none⟩ = some (.bool t110) := (blk_cell BK121.out 9).trans rfl
                          have hcz74_10 : w73.cell? ⟨gb121, 10, none⟩ = some (.int .u32 t111) := (blk_cell BK121.out 10).trans rfl
                          have hcz74_11 : w73.cell? ⟨gb121, 11, none⟩ = some (.int .i64 t112) := (blk_cell BK121.out 11).trans rfl
                          have hcz74_12 : w73.cell? ⟨gb121, 12, none⟩ = some (.bool t113) := (blk_cell BK121.out 12).trans rfl
                          have hcz74_13 : w73.cell? ⟨gb121, 13, none⟩ = some (.slice Ao7 t114.length co7) := (blk_cell BK121.out 13).trans rfl
                          have hcz74_14 : w73.cell? ⟨gb121, 14, none⟩ = some (.slice Ao8 t117.length co8) := (blk_cell BK121.out 14).trans rfl
                          have hfz74_0 := blk_frozen BK121.out 0
                          have hfz74_1 := blk_frozen BK121.out 1
                          have hfz74_2 := blk_frozen BK121.out 2
                          have hfz74_3 := blk_frozen BK121.out 3
                          have hfz74_4 := blk_frozen BK121.out 4
                          have hfz74_5 := blk_frozen BK121.out 5
                          have hfz74_6 := blk_frozen BK121.out 6
                          have hfz74_7 := blk_frozen BK121.out 7
                          have hfz74_8 := blk_frozen BK121.out 8
                          have hfz74_9 := blk_frozen BK121.out 9
                          have hfz74_10 := blk_frozen BK121.out 10
                          have hfz74_11 := blk_frozen BK121.out 11
                          have hfz74_12 := blk_frozen BK121.out 12
                          have hfz74_13 := blk_frozen BK121.out 13
                          have hfz74_14 := blk_frozen BK121.out 14
                          try go_wp2
                          go_ret
                          exact ⟨by first | rfl | (simp [errW_none, errW_some] <;> rfl) | (simp [*, errW_none, errW_some] <;> rfl), by repeat (first | (with_reducible first | exact HB.out | apply below_alloc | apply pw_below_drewN | apply below_drew1 | refine below_set ?_ GE121.out) | exact HB.out)⟩
                      · rw [if_neg c37] at H
                        have c37b0 : (t133 == 0) = false := beq_eq_false_iff_ne.mpr c37
                        have c37b1 : (t133 != 0) = true := bne_iff_ne.mpr c37
                        obtain rfl := Option.some.inj H
                        try go_wp2_with (first | ((with_reducible refine gate_callee (f := 63) rfl ?_); refine goesL_ (some 56) rfl rfl Try.func63 (by kernel_rfl) rfl #[.slice A0 l0.length c0, .int .i64 4] rfl (by (try simp only [List.map_toArray, List.map_cons, List.map_nil]); first | done | rfl | (simp only [List.length_drop, List.length_take]; rfl)) ?_; (with_reducible refine (stockaderef01_U16.calls _ _ l0 4 t126 t127 _ ?side1 ?side2 A30.out).mono ?_); (case side1 => repeat (first | exact (Kd.C_below HR0.out HB.out) | (with_reducible refine Kd.C_alloc ?_ _) | (with_reducible refine Kd.C_drewN ?_ _) | (with_reducible refine Kd.C_drew ?_))); (case side2 => exact HC0.out); rintro e w75 ⟨rfl, hb⟩; refine ⟨_, rfl, ?_⟩; have n0_ := Aside0.mk (Kd.R_below (by (with_reducible repeat (first | apply Kd.R_alloc | apply Kd.R_drewN | apply Kd.R_drew)); exact HO_40.out) hb); have n1_ := Aside0.mk (Kd.R_below (by (with_reducible repeat (first | apply Kd.R_alloc | apply Kd.R_drewN | apply Kd.R_drew)); exact HO_122013.out) hb); have n2_ := Aside0.mk (Kd.R_below (by (with_reducible repeat (first | apply Kd.R_alloc | apply Kd.R_drewN | apply Kd.R_drew)); exact HO_122014.out) hb); have n3_ := Aside0.mk (blk_below (g := gb121) (o := .cells #[.int .i64 t101, .int .i64 t102, .int .u64 t103, .int .u64 t104, .int .i64 t105, .int .u64 t106, .int .u64 t107, .int .i64 t108, .int .i64 t109, .bool t110, .int .u32 t111, .int .i64 t112, .bool t113, .slice Ao7 t114.length co7, .slice Ao8 t117.length co8] 55 (0, 0)) (by (with_reducible repeat (first | refine blk_drewN ?_ _ | refine blk_drew ?_ | refine blk_alloc ?_ _)); exact BK121.out) hb); have n4_ := Aside0.mk (below_step (by repeat (first | (with_reducible first | exact HB.out | apply below_alloc | apply pw_below_drewN | apply below_drew1 | refine below_set ?_ GE121.out) | exact HB.out)) hb); clear HO_40; clear HO_122013; clear HO_122014; clear BK121; clear HB; have HO_40 := n0_; have HO_122013 := n1_; have HO_122014 := n2_; have BK121 := n3_; have HB := n4_; clear n0_ n1_ n2_ n3_ n4_; (try clear hb); (try clear hb2); (try clear hk); (try clear hi)))
                        have n0_ := Aside0.mk (Kd.R_drew HO_40.out)
                        have n1_ := Aside0.mk (Kd.R_drew HO_122013.out)
                        have n2_ := Aside0.mk (Kd.R_drew HO_122014.out)
                        have n3_ := Aside0.mk (blk_drew BK121.out)
                        have n4_ := Aside0.mk (below_drew1 HB.out)
                        clear HO_40
                        clear HO_122013
                        clear HO_122014
                        clear BK121
                        clear HB
                        have HO_40 := n0_
                        have HO_122013 := n1_
                        have HO_122014 := n2_
                        have BK121 := n3_
                        have HB := n4_
                        clear n0_ n1_ n2_ n3_ n4_
                        have p128 : 0 ≤ (6 : Int) := (by omega)
                        have q128 : 6 < (l0.length : Int) := of_decide_eq_true (by first | (with_reducible assumption) | assumption)
                        obtain ⟨ad128, e128, hx128_0⟩ := Kd.at_int HR0.out 6 p128 q128
                        have hw128_0 := hx128_0
                        (try rw [show ((6 : Int)).toNat = 6 from rfl] at hw128_0)
                        (try rw [show 6 * 1 = 6 from rfl] at hw128_0)
                        (try simp only [Nat.reduceMul, Nat.reduceEqDiff, Go.Addr.add, ↓reduceIte] at hw128_0)
                        cases e128
                        (try simp only [show (6 : Int).toNat = 6 from rfl, Nat.reduceMul, Nat.reduceEqDiff, Go.Addr.add, ↓reduceIte] at hx128_0)
                        have qi128 : (6 < l0.length) = True := eq_true (by omega)
                        (try rw [show ((6 : Int)).toNat = 6 from rfl] at hx128_0)
                        replace hx128_0 := (HB.out.cell (World.block_lt_of_cell? w _ hx128_0)).trans hx128_0
                        replace p128 := eq_true p128
                        replace q128 := eq_true q128
                        obtain ⟨i077, hi077, _, hsz77, _⟩ := info_parts info5
                        obtain ⟨A77, hcut77, hA77, hC77⟩ := print_mid_of (P := Try.prog) (Value.int .u8) 0 27 5 .i64 .i64 Try.underlying27 hi077 hsz77 (some ad128) c0 l0 40 (wrap64 (40 + t126)) (by omega) (by first | omega | exact of_decide_eq_true (by first | (with_reducible assumption) | assumption)) (of_decide_eq_true (by first | (with_reducible assumption) | assumption)) HC0.out
                        have HR129 := Aside0.mk (Kd.C_of_reads (h1 := fun _ => rfl) (hA77 _ (Kd.reads_of_C HR0.out)))
                        have HC129 := Aside0.mk hC77
                        clear hA77 hC77 hi077 hsz77
                        refine start_ (n := 18) (S := fun w' => w'.cell? ⟨ad128.block, ad128.off + 6, none⟩ = some (.int .u8 (rd l0 6))) (ds := []) #[false, false, false, false, false, false, false, false, false, false, false, false, false, false, false, false, false, false] (by kernel_rfl) rfl rfl (((HB.out.cell (World.block_lt_of_cell? w _ hw128_0)).trans hw128_0)) (fun hHeld => ?_); refine with_tabW stockadelaw04_Ip6Same.tab13 stockadelaw04_Ip6Same.bits13 (fun HT_ HW_ => ?_)
                        generalize w75.drew = w76 at HO_40 HO_122013 HO_122014 BK121 HB HR129 hx128_0 hHeld ⊢
                        refine pure_ (i := 0) (N := some 65) (v := ?_) (a' := ?_) #[true, false, false, false, false, false, false, false, false, false, false, false, false, false, false, false, false, false] rfl rfl (any_of HT_.out (by kernel_rfl)) (fun _ _ _ h => h) (Or.inl ⟨by rfl, ?_⟩) ?_ ?_
                        rotate_left
                        · intro w'
                          go_simp
                          with_reducible rfl
                        rotate_left
                        · simp only [Act.put, List.setIfInBounds_toArray, List.set_cons_zero, List.set_cons_succ, i64_w, i32_w]
                          rfl
                        refine pure_ (i := 1) (N := some 66) (v := ?_) (a' := ?_) #[true, true, false, false, false, false, false, false, false, false, false, false, false, false, false, false, false, false] rfl rfl (any_of HT_.out (by kernel_rfl)) (fun _ _ _ h => h) (Or.inl ⟨by rfl, ?_⟩) ?_ ?_
                        rotate_left
                        · intro w'
                          go_simp
                          with_reducible rfl
                        rotate_left
                        · simp only [Act.put, List.setIfInBounds_toArray, List.set_cons_zero, List.set_cons_succ, i64_w, i32_w]
                          rfl
                        refine pure_ (i := 4) (N := some 69) (v := ?_) (a' := ?_) #[true, true, false, false, true, false, false, false, false, false, false, false, false, false, false, false, false, false] rfl rfl (any_of HT_.out (by kernel_rfl)) (fun _ _ _ h => h) (Or.inl ⟨by rfl, ?_⟩) ?_ ?_
                        rotate_left
                        · intro w'
                          go_simp
                          with_reducible rfl
                        rotate_left
                        · simp only [Act.put, List.setIfInBounds_toArray, List.set_cons_zero, List.set_cons_succ, i64_w, i32_w]
                          rfl
                        refine pure_ (i := 5) (N := some 70) (v := ?_) (a' := ?_) #[true, true, false, false, true, true, false, false, false, false, false, false, false, false, false, false, false, false] rfl rfl (any_of HT_.out (by kernel_rfl)) (fun _ _ _ h => h) (Or.inl ⟨by rfl, ?_⟩) ?_ ?_
                        rotate_left
                        · intro w'
                          go_simp
                          with_reducible rfl
                        rotate_left
                        · simp only [Act.put, List.setIfInBounds_toArray, List.set_cons_zero, List.set_cons_succ, i64_w, i32_w]
                          rfl
                        refine pure_ (i := 6) (N := some 71) (v := ?_) (a' := ?_) #[true, true, false, false, true, true, true, false, false, false, false, false, false, false, false, false, false, false] rfl rfl (any_of HT_.out (by kernel_rfl)) (fun _ _ _ h => h) (Or.inl ⟨by rfl, ?_⟩) ?_ ?_
                        rotate_left
                        · intro w'
                          go_simp
                          with_reducible rfl
                        rotate_left
                        · simp only [Act.put, List.setIfInBounds_toArray, List.set_cons_zero, List.set_cons_succ, i64_w, i32_w]
                          rfl
                        refine pure_ (i := 7) (N := some 72) (v := ?_) (a' := ?_) #[true, true, false, false, true, true, true, true, false, false, false, false, false, false, false, false, false, false] rfl rfl (any_of HT_.out (by kernel_rfl)) (fun _ _ _ h => h) (Or.inl ⟨by rfl, ?_⟩) ?_ ?_
                        rotate_left
                        · intro w'
                          go_simp
                          with_reducible rfl
                        rotate_left
                        · simp only [Act.put, List.setIfInBounds_toArray, List.set_cons_zero, List.set_cons_succ, i64_w, i32_w]
                          rfl
                        refine take_ (i := 2) (N := some 67) (v := ?_) (a' := ?_) #[true, true, true, false, true, true, true, true, false, false, false, false, false, false, false, false, false, false] rfl rfl (take_ofW HT_.out HW_.out (by kernel_rfl)) (fun _ _ _ h => h) (Or.inl ⟨by rfl, ?_⟩) hHeld ?_ ?_
                        rotate_left
                        · intro w' s0
                          go_simp
                          with_reducible rfl
                        rotate_left
                        · simp only [Act.put, List.setIfInBounds_toArray, List.set_cons_zero, List.set_cons_succ, i64_w, i32_w]
                          rfl
                        refine pure_ (i := 3) (N := some 68) (v := ?_) (a' := ?_) #[true, true, true, true, true, true, true, true, false, false, false, false, false, false, false, false, false, false] rfl rfl (any_of HT_.out (by kernel_rfl)) (fun _ _ _ h => h) (Or.inl ⟨by rfl, ?_⟩) ?_ ?_
                        rotate_left
                        · intro w'
                          go_simp
                          with_reducible rfl
                        rotate_left
                        · simp only [Act.put, List.setIfInBounds_toArray, List.set_cons_zero, List.set_cons_succ, i64_w, i32_w]
                          rfl
                        refine one_ (i := 8) (N := some 73) #[true, true, true, true, true, true, true, true, true, false, false, false, false, false, false, false, false, false] rfl rfl (one_of HT_.out (by kernel_rfl)) (by decide) (fun K hK => ?_)
                        refine goes_ Try.func51 (by kernel_rfl) rfl #[.int .i64 (wrap64 (rd l0 6)), .slice A77 ((l0.take ((wrap64 (40 + t126)) : Int).toNat).drop 40).length (c0 - 40)] (by rfl) rfl rfl (by (try simp only [List.map_toArray, List.map_cons, List.map_nil]); first | done | (rw [show ((l0.take ((wrap64 (40 + t126)) : Int).toNat).drop 40).length = ((wrap64 (40 + t126)).toNat - 40) from (by rw [List.length_drop, List.length_take]; have h_ : ((wrap64 (40 + t126)) : Int) ≤ (l0.length : Int) := of_decide_eq_true (by first | (with_reducible assumption) | assumption); omega)] <;> rfl) | rfl | (simp only [List.length_drop, List.length_take]; rfl)) ?_
                        with_reducible refine (ip6_Walk.calls (wrap64 (rd l0 6)) _ _ ((l0.take ((wrap64 (40 + t126)) : Int).toNat).drop 40) t130 t131 t132 t133 _ ?side1 ?side2 A36.out).mono ?_
                        (case side1 => repeat (first | exact (Kd.C_below HR129.out HB.out) | (with_reducible refine Kd.C_alloc ?_ _) | (with_reducible refine Kd.C_drewN ?_ _) | (with_reducible refine Kd.C_drew ?_)))
                        (case side2 => exact HC129.out)
                        rintro e w78 ⟨v134, v136, rfl, ho0, ho1, hb⟩
                        refine ⟨_, rfl, ?_⟩
                        have n0_ := Aside0.mk (Kd.R_elder' (by (with_reducible repeat (first | apply Kd.R_alloc | apply Kd.R_drewN | apply Kd.R_drew)); exact HO_40.out) (Kd.R_base ho0) hb)
                        have n1_ := Aside0.mk (Kd.R_elder' (by (with_reducible repeat (first | apply Kd.R_alloc | apply Kd.R_drewN | apply Kd.R_drew)); exact HO_122013.out) (Kd.R_base ho0) hb)
                        have n2_ := Aside0.mk (Kd.R_elder' (by (with_reducible repeat (first | apply Kd.R_alloc | apply Kd.R_drewN | apply Kd.R_drew)); exact HO_122014.out) (Kd.R_base ho1) hb)
                        have n3_ := Aside0.mk (Kd.R_lower (Kd.R_new' (Kd.R_new' ho0 (Kd.R_lt (by (with_reducible repeat (first | apply Kd.R_alloc | apply Kd.R_drewN | apply Kd.R_drew)); exact HO_40.out))) (Kd.R_lt (by (with_reducible repeat (first | apply Kd.R_alloc | apply Kd.R_drewN | apply Kd.R_drew)); exact HO_122013.out))) (below_size (by repeat (first | (with_reducible first | exact HB.out | apply below_alloc | apply pw_below_drewN | apply below_drew1 | refine below_set ?_ GE121.out) | exact HB.out))))
                        have n4_ := Aside0.mk (Kd.R_lower (Kd.R_new' ho1 (Kd.R_lt (by (with_reducible repeat (first | apply Kd.R_alloc | apply Kd.R_drewN | apply Kd.R_drew)); exact HO_122014.out))) (below_size (by repeat (first | (with_reducible first | exact HB.out | apply below_alloc | apply pw_below_drewN | apply below_drew1 | refine below_set ?_ GE121.out) | exact HB.out))))
                        have n5_ := Aside0.mk (blk_below (g := gb121) (o := .cells #[.int .i64 t101, .int .i64 t102, .int .u64 t103, .int .u64 t104, .int .i64 t105, .int .u64 t106, .int .u64 t107, .int .i64 t108, .int .i64 t109, .bool t110, .int .u32 t111, .int .i64 t112, .bool t113, .slice Ao7 t114.length co7, .slice Ao8 t117.length co8] 55 (0, 0)) (by (with_reducible repeat (first | refine blk_drewN ?_ _ | refine blk_drew ?_ | refine blk_alloc ?_ _)); exact BK121.out) hb)
                        have n6_ := Aside0.mk (below_step (by repeat (first | (with_reducible first | exact HB.out | apply below_alloc | apply pw_below_drewN | apply below_drew1 | refine below_set ?_ GE121.out) | exact HB.out)) hb)
                        clear HO_40
                        clear HO_122013
                        clear HO_122014
                        clear BK121
                        clear HB
                        have HO_40 := n0_
                        have HO_122013 := n1_
                        have HO_122014 := n2_
                        have HO135 := n3_
                        have HO137 := n4_
                        have BK121 := n5_
                        have HB := n6_
                        clear n0_ n1_ n2_ n3_ n4_ n5_ n6_
                        (try clear hb)
                        (try clear hb2)
                        (try clear hk)
                        (try clear hi)
                        (try clear ho0)
                        (try clear ho1)
                        refine hK.out _ _ (((HB.out.cell (World.block_lt_of_cell? w _ hw128_0)).trans hw128_0)) (fun hHeld => ?_)
                        clear hK K
                        refine norm_ (a' := ?_) ?_ ?_
                        rotate_left
                        · show Act.put _ (some 73) _ = _
                          simp only [Act.put, List.setIfInBounds_toArray, List.set_cons_zero, List.set_cons_succ, i64_w, i32_w]
                          rfl
                        refine pure_ (i := 9) (N := some 64) (v := ?_) (a' := ?_) #[true, true, true, true, true, true, true, true, true, true, false, false, false, false, false, false, false, false] rfl rfl (any_of HT_.out (by kernel_rfl)) (fun _ _ _ h => h) (Or.inl ⟨by rfl, ?_⟩) ?_ ?_
                        rotate_left
                        · intro w'
                          go_simp
                          with_reducible rfl
                        rotate_left
                        · simp only [Act.put, List.setIfInBounds_toArray, List.set_cons_zero, List.set_cons_succ, i64_w, i32_w]
                          rfl
                        refine pure_ (i := 10) (N := some 74) (v := ?_) (a' := ?_) #[true, true, true, true, true, true, true, true, true, true, true, false, false, false, false, false, false, false] rfl rfl (any_of HT_.out (by kernel_rfl)) (fun _ _ _ h => h) (Or.inl ⟨by rfl, ?_⟩) ?_ ?_
                        rotate_left
                        · intro w'
                          go_simp
                          with_reducible rfl
                        rotate_left
                        · simp only [Act.put, List.setIfInBounds_toArray, List.set_cons_zero, List.set_cons_succ, i64_w, i32_w]
                          rfl
                        refine pure_ (i := 11) (N := some 75) (v := ?_) (a' := ?_) #[true, true, true, true, true, true, true, true, true, true, true, true, false, false, false, false, false, false] rfl rfl (any_of HT_.out (by kernel_rfl)) (fun _ _ _ h => h) (Or.inl ⟨by rfl, ?_⟩) ?_ ?_
                        rotate_left
                        · intro w'
                          go_simp
                          with_reducible rfl
                        rotate_left
                        · simp only [Act.put, List.setIfInBounds_toArray, List.set_cons_zero, List.set_cons_succ, i64_w, i32_w]
                          rfl
                        refine pure_ (i := 12) (N := some 76) (v := ?_) (a' := ?_) #[true, true, true, true, true, true, true, true, true, true, true, true, true, false, false, false, false, false] rfl rfl (any_of HT_.out (by kernel_rfl)) (fun _ _ _ h => h) (Or.inl ⟨by rfl, ?_⟩) ?_ ?_
                        rotate_left
                        · intro w'
                          go_simp
                          with_reducible rfl
                        rotate_left
                        · simp only [Act.put, List.setIfInBounds_toArray, List.set_cons_zero, List.set_cons_succ, i64_w, i32_w]
                          rfl
                        refine pure_ (i := 13) (N := some 77) (v := ?_) (a' := ?_) #[true, true, true, true, true, true, true, true, true, true, true, true, true, true, false, false, false, false] rfl rfl (any_of HT_.out (by kernel_rfl)) (fun _ _ _ h => h) (Or.inl ⟨by rfl, ?_⟩) ?_ ?_
                        rotate_left
                        · intro w'
                          go_simp
                          with_reducible rfl
                        rotate_left
                        · simp only [Act.put, List.setIfInBounds_toArray, List.set_cons_zero, List.set_cons_succ, i64_w, i32_w]
                          rfl
                        refine pure_ (i := 14) (N := some 9) (v := ?_) (a' := ?_) #[true, true, true, true, true, true, true, true, true, true, true, true, true, true, true, false, false, false] rfl rfl (any_of HT_.out (by kernel_rfl)) (fun _ _ _ h => h) (Or.inl ⟨by rfl, ?_⟩) ?_ ?_
                        rotate_left
                        · intro w'
                          go_simp
                          with_reducible rfl
                        rotate_left
                        · simp only [Act.put, List.setIfInBounds_toArray, List.set_cons_zero, List.set_cons_succ, i64_w, i32_w]
                          rfl
                        refine pure_ (i := 15) (N := some 10) (v := ?_) (a' := ?_) #[true, true, true, true, true, true, true, true, true, true, true, true, true, true, true, true, false, false] rfl rfl (any_of HT_.out (by kernel_rfl)) (fun _ _ _ h => h) (Or.inl ⟨by rfl, ?_⟩) ?_ ?_
                        rotate_left
                        · intro w'
                          go_simp
                          with_reducible rfl
                        rotate_left
                        · simp only [Act.put, List.setIfInBounds_toArray, List.set_cons_zero, List.set_cons_succ, i64_w, i32_w]
                          rfl
                        refine pure_ (i := 16) (N := some 11) (v := ?_) (a' := ?_) #[true, true, true, true, true, true, true, true, true, true, true, true, true, true, true, true, true, false] rfl rfl (any_of HT_.out (by kernel_rfl)) (fun _ _ _ h => h) (Or.inl ⟨by rfl, ?_⟩) ?_ ?_
                        rotate_left
                        · intro w'
                          go_simp
                          with_reducible rfl
                        rotate_left
                        · simp only [Act.put, List.setIfInBounds_toArray, List.set_cons_zero, List.set_cons_succ, i64_w, i32_w]
                          rfl
                        refine pure_ (i := 17) (N := some 12) (v := ?_) (a' := ?_) #[true, true, true, true, true, true, true, true, true, true, true, true, true, true, true, true, true, true] rfl rfl (any_of HT_.out (by kernel_rfl)) (fun _ _ _ h => h) (Or.inl ⟨by rfl, ?_⟩) ?_ ?_
                        rotate_left
                        · intro w'
                          go_simp
                          with_reducible rfl
                        rotate_left
                        · simp only [Act.put, List.setIfInBounds_toArray, List.set_cons_zero, List.set_cons_succ, i64_w, i32_w]
                          rfl
                        refine done_ (done_of HT_.out (by kernel_rfl)) ?_
                        try go_wp2
                        go_ret
                        exact ⟨by first | rfl | (simp [errW_none, errW_some] <;> rfl) | (simp [*, errW_none, errW_some] <;> rfl), by repeat (first | (with_reducible first | exact HB.out | apply below_alloc | apply pw_below_drewN | apply below_drew1 | refine below_set ?_ GE121.out) | exact HB.out)⟩
                    · rw [if_neg c35] at H
                      exact absurd H (by simp)
                  · rw [if_neg c34] at H
                    exact absurd H (by simp)
                · rw [if_neg c33] at H
                  exact absurd H (by simp)
end Go.Proofs.Ytgifcmbknkjemaa.I6Same
end
section
namespace Go.Proofs.Ytgifcmbknkjemaa.Own
open Go Go.RowKit Go.Proofs.YtgifcmbknkjemaaW.PrintWords Go.Proofs.YtgifcmbknkjemaaW.PrintLast Go.Proofs.YtgifcmbknkjemaaW.PrintMore Go.Proofs.Ytgifcmbknkjemaa.I6Same
set_option linter.unusedVariables false
set_option linter.unusedSimpArgs false
theorem alive04_is : stockadelaw04_alive.f = some true := by unfold stockadelaw04_alive.f; rw [if_pos trivial]
theorem okS_mk {l : List Int} (h : Bytes l) (hl : l.length ≤ 140737488355000) : okS l = true := okS_iff.2 ⟨h, hl⟩
theorem parse6_short {b : List Int} (h : (parse6 b).2 = 0) : 40 ≤ b.length := by
  unfold parse6 at h
  by_cases h1 : b.length < 40
  · rw [if_pos h1] at h; simp at h
  · omega
theorem Ip6Same_loop {l0 : List Int} (hb : Bytes l0) (hl : l0.length ≤ 140737488351232) (he : (parse6 l0).2 = 0) (a0 a1 a2 a3 a4 a5 a6 : Int) (hop : Int) (fr : Bool) (i o : Int) (m : Bool) (d : Nat) : ∀ j : Nat, j + d = (parse6 l0).1.exts.length → (∀ q : Nat, q < j → rd (parse6 l0).1.exts (q : Int) ≠ 0 ∧ rd (parse6 l0).1.exts (q : Int) ≠ 44) →
    Ev (fun k => stockadelaw04_Ip6Same.l0 k l0 (parse6 l0).1.exts ((parse6 l0).1.exts.length : Int) j a0 a1 a2 a3 a4 a5 a6 (parse6 l0).1.proto hop fr i o m (parse6 l0).1.exts (parse6 l0).1.data) true := by
  have hinv := parse6_inv hb
  induction d with
  | zero =>
    intro j hj hno
    refine Ev.step (fun k => ?_) (Ev.now _)
    rw [stockadelaw04_Ip6Same.l0, if_neg (by omega)]
    obtain ⟨g1, g2, g3⟩ := parse6_same he (fun x hx => by
      obtain ⟨q, hq, rfl⟩ := List.getElem_of_mem hx
      have := hno q (by omega)
      have e : rd (parse6 l0).1.exts (q : Int) = (parse6 l0).1.exts[q] := by
        unfold rd
        rw [List.getD_eq_getElem?_getD, Int.toNat_natCast, List.getElem?_eq_getElem hq]
        rfl
      rw [← e]
      exact this)
    have hu := u16_bounds hb 4
    have h6 := rd_byte hb 6
    have e1 : stockaderef01_U16.f l0 4 = some (u16 l0 4, true) := by
      unfold stockaderef01_U16.f wire_U16.f
      rw [if_pos (okS_mk hb (by omega)), if_pos (by omega)]
    have e2 : wrap64 ((l0.length : Int) - 40) = (l0.length : Int) - 40 := w64 _ (by omega) (by omega)
    have e3 : wrap64 (40 + u16 l0 4) = 40 + u16 l0 4 := w64 _ (by omega) (by omega)
    have e4 : wrap64 (rd l0 6) = rd l0 6 := w64 _ (by omega) (by omega)
    have e5 : (l0.take (40 + u16 l0 4).toNat).drop 40 = (l0.drop 40).take (u16 l0 4).toNat := by
      rw [List.drop_take]
      congr 1
      omega
    have hby : Bytes ((l0.drop 40).take (u16 l0 4).toNat) := fun c hc => hb c (List.mem_of_mem_drop (List.mem_of_mem_take hc))
    have e6 : ip6_Walk.f (rd l0 6) ((l0.drop 40).take (u16 l0 4).toNat) = some ((parse6 l0).1.proto, (parse6 l0).1.exts, (parse6 l0).1.data, 0) := by
      unfold ip6_Walk.f
      rw [if_pos (okS_mk hby (by rw [List.length_take, List.length_drop]; omega)), g3]
    have e7 : stockadelaw04_sameInts.f (parse6 l0).1.exts (parse6 l0).1.exts = some true := by
      unfold stockadelaw04_sameInts.f
      rw [if_pos (by omega)]
      simp
    have e8 : stockaderef01_Same.f (parse6 l0).1.data (parse6 l0).1.data = some true := by
      unfold stockaderef01_Same.f
      rw [if_pos ⟨okB_iff.2 hinv.2.1, okB_iff.2 hinv.2.1⟩]
      simp
    rw [e1]
    simp only [Option.bind_some, e2, e3, e4]
    rw [if_neg (by omega), if_pos (by omega), if_pos (by omega), if_pos (by omega), e5, e6]
    simp only [Option.bind_some, if_true]
    rw [e7]
    simp only [Option.bind_some, if_true]
    rw [e8]
    simp only [Option.bind_some, if_true]
    rw [alive04_is]
    rfl
  | succ d ih =>
    intro j hj hno
    by_cases h0 : rd (parse6 l0).1.exts (j : Int) = 0
    · refine Ev.step (fun k => ?_) (Ev.now _)
      rw [stockadelaw04_Ip6Same.l0, if_pos (by omega), if_pos (by omega), if_pos (by omega), if_pos h0, alive04_is]
      rfl
    by_cases h4 : rd (parse6 l0).1.exts (j : Int) = 44
    · refine Ev.step (fun k => ?_) (Ev.now _)
      rw [stockadelaw04_Ip6Same.l0, if_pos (by omega), if_pos (by omega), if_pos (by omega), if_neg h0, if_pos h4, alive04_is]
      rfl
    refine Ev.step (fun k => ?_) (ih (j + 1) (by omega) (fun q hq => by
      rcases Nat.lt_or_ge q j with h | h
      · exact hno q h
      · obtain rfl : q = j := by omega
        exact ⟨h0, h4⟩))
    rw [stockadelaw04_Ip6Same.l0, if_pos (by omega), if_pos (by omega), if_pos (by omega), if_neg h0, if_neg h4, wsucc j (by omega)]
set_option maxRecDepth 100000 in
theorem Ip6Same_some {l0 : List Int} (hb : Bytes l0) (hl : l0.length ≤ 140737488351232) : ∃ k, stockadelaw04_Ip6Same.f k l0 = some true := by
  have e0 : ip6_Parse.f l0 = some (ipT (parse6 l0)) := by unfold ip6_Parse.f; rw [if_pos (okS_mk hb (by omega))]
  by_cases he : (parse6 l0).2 = 0
  · have h40 := parse6_short he
    cases hf : (parse6 l0).1.frag with
    | true =>
      refine ⟨1, ?_⟩
      unfold stockadelaw04_Ip6Same.f
      rw [e0]
      simp only [Option.bind_some, ipT]
      rw [if_pos he, if_pos hf, stockadelaw04_Ip6Same.j0, if_pos rfl, alive04_is]
      simp only [Option.bind_some, if_true]
      rw [if_pos he, decide_eq_true (by omega)]
    | false =>
      obtain ⟨k, hk⟩ := (Ip6Same_loop hb hl he (parse6 l0).1.fam (parse6 l0).1.src.1 (parse6 l0).1.src.2.1 (parse6 l0).1.src.2.2 (parse6 l0).1.dst.1 (parse6 l0).1.dst.2.1 (parse6 l0).1.dst.2.2 (parse6 l0).1.hop (parse6 l0).1.frag (parse6 l0).1.id (parse6 l0).1.off (parse6 l0).1.more _ 0 (Nat.zero_add _) (fun q hq => by omega)).rounds
      refine ⟨k + 1, ?_⟩
      unfold stockadelaw04_Ip6Same.f
      rw [e0]
      simp only [Option.bind_some, ipT]
      rw [if_pos he, if_neg (by rw [hf]; simp), decide_eq_false (by omega), stockadelaw04_Ip6Same.j0, if_neg (by simp)]
      exact hk
  · refine ⟨1, ?_⟩
    unfold stockadelaw04_Ip6Same.f
    rw [e0]
    simp only [Option.bind_some, ipT]
    rw [if_neg he, stockadelaw04_Ip6Same.j0, if_pos rfl, alive04_is]
    simp only [Option.bind_some, if_true]
    rw [if_neg he]
theorem Ip6Same_walk (w : World) (A0 : Option Addr) (c0 : Nat) (l0 : List Int) (hr0 : Kd.C (Kd.int .u8) w A0 l0.length l0) (hc0 : l0.length ≤ c0) (hg0 : Bytes l0 ∧ l0.length ≤ 140737488351232) :
    Calls Try.prog 13 #[.slice A0 l0.length c0] w fun e w' => e = .returned (.bool true) ∧ Below w.heap.size w w' := by
  obtain ⟨k, hk⟩ := Ip6Same_some hg0.1 hg0.2
  exact stockadelaw04_Ip6Same.calls k A0 c0 l0 true w hr0 hc0 hk
end Go.Proofs.Ytgifcmbknkjemaa.Own
end
